/- Pgv, Poj, Psn: joined by program, for one claim. -/
import Derived.Test.YtajhkncolbgkbaaDoorM10
import Derived.Test.YtajhkncolbgkbaaDoorM12
set_option linter.unusedVariables false
set_option linter.unusedSimpArgs false
namespace Go.Proofs.YtajhkncolbgkbaaDoor
section
structure PInv (n t:Nat) (im:List (List Int)):Prop where
 big:17<n
 len:im.length=n
 small:t<2 ^ 32
 all : ∀ x∈im,goodP x∧numP x≤t
 log:(t=0 ∧ ∀ x∈im,x=zerosP 128) ∨ ∃ l:List (Nat × List Int),1≤t∧BatchOk n l∧im[0]? = some (sealP t (recP (l.map (·.1))))∧(∀ j x,l[j]? = some x→im[1+j]? = some (sealP t x.2)) ∧ ∀ x∈l,im[17+x.1]? = some (sealP t x.2)
theorem zeros_good:goodP (zerosP 128):=⟨by simp [zerosP],.inl rfl⟩
theorem zeros_num:numP (zerosP 128)=0:=by decide
theorem PInv.start {n:Nat} (h:17<n):PInv n 0 (List.replicate n (zerosP 128)):=by
 have h0 : ∀ x∈List.replicate n (zerosP 128),x=zerosP 128:=fun x hx=>(List.mem_replicate.1 hx).2
 exact ⟨h,List.length_replicate ..,by decide,fun x hx=>by rw [h0 x hx];exact ⟨zeros_good,by rw [zeros_num];omega⟩,.inl ⟨rfl,h0⟩⟩
theorem PInv.len128 {n t:Nat} {im:List (List Int)} (h:PInv n t im) : ∀ x∈im,x.length=128:=fun x hx=>(h.all x hx).1.1
theorem logW_apart (t:Nat) (l:List (Nat × List Int)):(logW t l).Pairwise fun a b=>a.1 ≠ b.1:=by
 unfold logW
 rw [List.pairwise_append]
 refine ⟨?_,List.pairwise_singleton _ _,fun a ha b hb=>?_⟩
 · rw [List.pairwise_iff_getElem]
   intro i j hi hj hij
   simp only [List.getElem_mapIdx]
   omega
 · obtain ⟨j,hj,rfl⟩:=List.mem_mapIdx.1 ha
   rw [List.mem_singleton] at hb;subst hb
   simp only;omega
theorem dataW_apart {t n:Nat} {l:List (Nat × List Int)} (h:BatchOk n l):(dataW t l).Pairwise fun a b=>a.1 ≠ b.1:=by
 unfold dataW
 have hs:=h.sorted
 rw [List.pairwise_map] at hs ⊢
 exact hs.imp fun {a b} h=>by simp only;omega
theorem wrote_log {t n:Nat} {l:List (Nat × List Int)} {im:List (List Int)} (hl:im.length=n) (hn:17<n) (h:BatchOk n l) {i:Nat} {s:List Int} (hi:(i,s)∈logW t l):(wrote t l im)[i]? = some s:=by
 have hf:=h.few
 have h1:=logW_in (t:=t) hn h _ hi
 have hlow:i<17:=by
  rcases List.mem_append.1 hi with hi | hi
  · obtain ⟨j,hj,e⟩:=List.mem_mapIdx.1 hi
    injection e with e1 _;omega
  · rw [List.mem_singleton] at hi;injection hi with e1 _;omega
 unfold wrote
 rw [applyW_off _ _ (fun w hw=>by
  obtain ⟨x,_,rfl⟩:=List.mem_map.1 hw
  simp only;omega)]
 exact applyW_at _ _ (by rw [hl];exact h1.1) (logW_apart t l) hi
theorem wrote_data {t n:Nat} {l:List (Nat × List Int)} {im:List (List Int)} (hl:im.length=n) (h:BatchOk n l) {x:Nat × List Int} (hx:x∈l):(wrote t l im)[17+x.1]? = some (sealP t x.2):=by
 unfold wrote
 exact applyW_at _ _ (by rw [applyW_len,hl];have:=h.low x hx;omega) (dataW_apart h) (List.mem_map.2 ⟨x,hx,rfl⟩)
theorem wrote_off {t n:Nat} {l:List (Nat × List Int)} {im:List (List Int)} (h:BatchOk n l) {i:Nat} (hi : ∀ x∈l,x.1 ≠ i):(wrote t l im)[17+i]? = im[17+i]? := by
 have hf:=h.few
 unfold wrote
 rw [applyW_off _ _ (fun w hw=>by
  obtain ⟨x,hx,rfl⟩:=List.mem_map.1 hw
  have:=hi x hx
  simp only;omega),applyW_off _ _ (fun w hw=>by
  rcases List.mem_append.1 hw with hw | hw
  · obtain ⟨j,hj,rfl⟩:=List.mem_mapIdx.1 hw
    simp only;omega
  · rw [List.mem_singleton] at hw;subst hw
    simp only;omega)]
theorem applyW_mem {P:List Int→Prop} : ∀ (ws:List (Nat × List Int)) (im:List (List Int)),(∀ x∈im,P x)→(∀ w∈ws,P w.2) → ∀ x∈applyW im ws,P x
 | [],_,h,_,x,hx=>h x hx
 | w :: ws, im, h, hw, x, hx => applyW_mem ws (im.set w.1 w.2) (fun y hy => by
     rcases List.mem_or_eq_of_mem_set hy with hy | rfl
     · exact h y hy
     · exact hw w (List.mem_cons_self ..)) (fun y hy=>hw y (List.mem_cons_of_mem _ hy)) x hx
theorem wrote_len (t:Nat) (l:List (Nat × List Int)) (im:List (List Int)):(wrote t l im).length=im.length:=by unfold wrote;rw [applyW_len,applyW_len]
theorem PInv.write {n t:Nat} {im:List (List Int)} {l:List (Nat × List Int)} (h:PInv n t im) (hl:BatchOk n l) (ht:t+1≤2 ^ 30):PInv n (t+1) (wrote (t+1) l im):=by
 have hf:=hl.few
 have hg : ∀ d:List Int,d.length=116→goodP (sealP (t+1) d)∧numP (sealP (t+1) d)≤t+1:=fun d hd=>⟨seal_good (by omega) ht hd,by rw [seal_num (by omega)];omega⟩
 refine ⟨h.big,by rw [wrote_len];exact h.len,by omega,?_,.inr ⟨l,by omega,hl,?_,fun j x hx=>?_,fun x hx=>wrote_data h.len hl hx⟩⟩
 · refine applyW_mem (P:=fun x=>goodP x∧numP x≤t+1) _ _ (applyW_mem (P:=fun x=>goodP x∧numP x≤t+1) _ _ (fun x hx=>⟨(h.all x hx).1,by have:=(h.all x hx).2;omega⟩) (fun w hw=>?_)) (fun w hw=>?_)
   · rcases List.mem_append.1 hw with hw | hw
     · obtain ⟨j,hj,rfl⟩:=List.mem_mapIdx.1 hw
       exact hg _ (hl.data _ (List.getElem_mem hj)).1
     · rw [List.mem_singleton] at hw;subst hw
       exact hg _ (rec_len (by rw [List.length_map];omega))
   · obtain ⟨x,hx,rfl⟩:=List.mem_map.1 hw
     exact hg _ (hl.data x hx).1
 · exact wrote_log h.len h.big hl (List.mem_append_right _ (List.mem_singleton.2 rfl))
 · refine wrote_log h.len h.big hl (List.mem_append_left _ (List.mem_mapIdx.2 ?_))
   have hj:=(List.getElem?_eq_some_iff.1 hx)
   exact ⟨j,hj.1,by rw [hj.2]⟩
theorem getD_of {im:List (List Int)} {i:Nat} {s:List Int} (h:im[i]? = some s):im.getD i []=s:=by rw [List.getD_eq_getElem?_getD,h];rfl
theorem targets_full {n t:Nat} {im:List (List Int)} {l:List (Nat × List Int)} (hlen:im.length=n) (ht0:1≤t) (ht:t≤2 ^ 30) (hn:n≤65536) (hl:BatchOk n l) (h0:im[0]? = some (sealP t (recP (l.map (·.1))))) (hj : ∀ j x,l[j]? = some x→im[1+j]? = some (sealP t x.2)):targetsP im=l.map (·.1):=by
 have hf:=hl.few
 have hone:=hl.one
 have hrl:(recP (l.map (·.1))).length=116:=rec_len (by rw [List.length_map];omega)
 have hg0:goodP (sealP t (recP (l.map (·.1)))):=seal_good ht0 ht hrl
 have hk:logK im=l.length:=by
  unfold logK
  rw [getD_of h0,if_pos hg0]
  unfold dataP
  rw [seal_data hrl]
  unfold recP
  simp only [List.cons_append,List.getD_cons_zero,List.length_map]
  omega
 have hnum:numOf (im.getD 0 [])=t:=by
  unfold numOf
  rw [getD_of h0,if_pos hg0,seal_num (by omega)]
 have hdat:dataP (im.getD 0 [])=recP (l.map (·.1)):=by rw [getD_of h0];exact seal_data hrl
 unfold targetsP
 rw [if_neg (by rw [hnum,hk];omega),hnum,hdat,hk]
 have:=tg_some (image:=im) (t:=t) (data:=recP (l.map (·.1))) (l:=l.map (·.1)) (fun j x hx=>rec_word (fun y hy=>by
  obtain ⟨z,hz,rfl⟩:=List.mem_map.1 hy
  have:=hl.low z hz;omega) hx) (fun j hjl=>by
  rw [List.length_map] at hjl
  rw [getD_of (hj j l[j] (List.getElem?_eq_getElem hjl))]
  exact ⟨seal_good ht0 ht (hl.data _ (List.getElem_mem hjl)).1,seal_num (by omega) _⟩) (fun x hx=>by
  obtain ⟨z,hz,rfl⟩:=List.mem_map.1 hx
  rw [hlen];exact hl.low z hz) hl.sorted l.length (by rw [List.length_map];exact Nat.le_refl _)
 rw [this,List.take_of_length_le (by rw [List.length_map];exact Nat.le_refl _)]
 simp
theorem targets_zero {im:List (List Int)} (h:im.getD 0 []=zerosP 128):targetsP im=[]:=by
 unfold targetsP numOf
 rw [h,if_pos zeros_good,zeros_num,if_pos (.inl rfl)]
end
section
open Go.RowKit Go.Sort Go.Maps
theorem tg_lt {image:List (List Int)} {t:Nat} {data:List Int} : ∀ {k:Nat} {l:List Nat},tgGo image t data k=some l → ∀ x∈l,x+17<image.length
 | 0,l,h,x,hx=>by simp only [tgGo,Option.some.injEq] at h;subst h;cases hx
 | k + 1, l, h, x, hx => by
   unfold tgGo at h
   cases h1:tgGo image t data k with
   | none=>rw [h1] at h;cases h
   | some m =>
     rw [h1] at h
     simp only at h
     split at h
     · rename_i hc
       simp only [Option.some.injEq] at h;subst h
       rcases List.mem_append.1 hx with hx | hx
       · exact tg_lt h1 x hx
       · rw [List.mem_singleton] at hx;subst hx;exact hc.2.2.1
     · cases h
theorem targets_facts (im:List (List Int)):(targetsP im).length≤16 ∧ ∀ x∈targetsP im,x+17<im.length:=by
 unfold targetsP
 split
 · exact ⟨Nat.zero_le _,fun x hx=>by cases hx⟩
 · rename_i hk
   cases e:tgGo im (numOf (im.getD 0 [])) (dataP (im.getD 0 [])) (logK im) with
   | none=>exact ⟨Nat.zero_le _,fun x hx=>by cases hx⟩
   | some l =>
     simp only
     split
     · exact ⟨by rw [tg_len e];omega,tg_lt e⟩
     · exact ⟨Nat.zero_le _,fun x hx=>by cases hx⟩
def opsR (im:List (List Int)) (k:Nat):List DOp:=((targetsP im).take k).mapIdx fun j x=>DOp.w (17+x) (im.getD (1+j) [])
def wsR (im:List (List Int)) (k:Nat):List (Nat × List Int):=((targetsP im).take k).mapIdx fun j x=>(17+x,im.getD (1+j) [])
def imgK (im:List (List Int)) (k:Nat):List (List Int):=applyW im (wsR im k)
theorem mapIdx_take_succ {α β:Type} {L:List α} {k:Nat} {x:α} (h:L[k]? = some x) (f:Nat→α→β):(L.take (k+1)).mapIdx f=(L.take k).mapIdx f++[f k x]:=by
 rw [take_succ_of h,List.mapIdx_append]
 have:(L.take k).length=k:=by rw [List.length_take];have:=(List.getElem?_eq_some_iff.1 h).1;omega
 simp [this]
theorem opsR_succ {im:List (List Int)} {k x:Nat} (h:(targetsP im)[k]? = some x):opsR im k++[.w (17+x) (im.getD (1+k) [])]=opsR im (k+1):=(mapIdx_take_succ h _).symm
theorem imgK_succ {im:List (List Int)} {k x:Nat} (h:(targetsP im)[k]? = some x):(imgK im k).set (17+x) (im.getD (1+k) [])=imgK im (k+1):=by
 unfold imgK wsR
 rw [mapIdx_take_succ h,applyW_app];rfl
theorem imgK_len (im:List (List Int)) (k:Nat):(imgK im k).length=im.length:=applyW_len _ _
theorem imgK_low (im:List (List Int)) (k:Nat) {i:Nat} (hi:i<17):(imgK im k)[i]? = im[i]? := by
 unfold imgK
 refine applyW_off _ _ fun w hw=>?_
 unfold wsR at hw
 obtain ⟨j,hj,rfl⟩:=List.mem_mapIdx.1 hw
 simp only;omega
theorem imgK_all (im:List (List Int)):imgK im (targetsP im).length=imgR im:=by unfold imgK wsR imgR;rw [List.take_length]
theorem opsR_len (im:List (List Int)) {k:Nat} (h:k≤(targetsP im).length):(opsR im k).length=k:=by unfold opsR;simp;omega
theorem opsR_nil {im:List (List Int)} (h:(targetsP im).length=0):opsR im (targetsP im).length=replayP im:=by
 have:targetsP im=[]:=List.eq_nil_of_length_eq_zero h
 unfold opsR replayP;rw [this];rfl
theorem opsR_all {im:List (List Int)} (h:0<(targetsP im).length):opsR im (targetsP im).length++[.f]=replayP im:=by
 unfold opsR replayP
 rw [List.take_length,if_neg (fun e=>by rw [e] at h;exact absurd h (by decide))]
theorem imgK_pages {im:List (List Int)} (h : ∀ x∈im,x.length=128∧Byts x) (h17:17<im.length) (k:Nat) : ∀ x∈imgK im k,x.length=128∧Byts x:=by
 refine applyW_mem (P:=fun x=>x.length=128∧Byts x) _ _ h fun w hw=>?_
 unfold wsR at hw
 obtain ⟨j,hj,rfl⟩:=List.mem_mapIdx.1 hw
 have hlt:1+j<im.length:=by have:=(targets_facts im).1;simp only [List.length_take] at hj;omega
 simp only
 rw [List.getD_eq_getElem?_getD,List.getElem?_eq_getElem hlt]
 exact h _ (List.getElem_mem hlt)
structure OjI (w1:World) (dp gi n ci:Nat) (im:List (List Int)) (v11:Value) (ops:List DOp) (W:World):Prop where
 lt:gi<w1.heap.size
 chg:Chg (fun k=>k=gi∨w1.heap.size≤k) w1 W
 len:n=im.length
 img:Ownv W 0 9 (.slice (some ⟨gi,0,none⟩) n ci) (strs im)
 ex : ∃ (A:Nat→Prop) (lv:List Value),(∀ x,A x→w1.heap.size≤x∧x<W.heap.size∧v11.ownBlock ≠ some x)∧Ownv W w1.heap.size 89 v11 lv∧StepsV A dp W lv ops
section
variable {w1 W W3:World} {dp gi n ci:Nat} {im:List (List Int)} {v11:Value} {ops:List DOp}
theorem OjI.start (hlt:gi<w1.heap.size) (hn:n=im.length) (hi:Ownv w1 0 9 (.slice (some ⟨gi,0,none⟩) n ci) (strs im)):OjI w1 dp gi n ci im (.slice none 0 0) [] w1 :=
 ⟨hlt,Chg.refl _ _,hn,hi,fun _=>False,[],fun _ h=>h.elim,Ownv.nil _ _ _,StepsV.nil _ _ _⟩
theorem OjI.later (h:OjI w1 dp gi n ci im v11 ops W) (hb:Below W.heap.size W W3):OjI w1 dp gi n ci im v11 ops W3:=by
 obtain ⟨A,lv,hA,h1,h2⟩:=h.ex
 exact ⟨h.lt,h.chg.later hb h.chg.size,h.len,h.img.below hb,A,lv,fun x hx=>⟨(hA x hx).1,Nat.lt_of_lt_of_le (hA x hx).2.1 hb.size,(hA x hx).2.2⟩,h1.below hb,h2.later hb⟩
theorem OjI.at_ (h:OjI w1 dp gi n ci im v11 ops W) {i:Nat} {s:List Int} (hs:im[i]? = some s):W.cell? ⟨gi,i,none⟩=some (.string (strOfNums s))∧W.frozen? ⟨gi,i,none⟩=false:=by
 have hl:n=(strs im).length:=by rw [strs_length];exact h.len
 have hi:=h.img
 rw [hl] at hi
 obtain ⟨b,off,e,hc⟩:=hi.sl i _ (strs_at hs)
 simp only [Option.some.injEq,Addr.mk.injEq,and_true] at e
 obtain ⟨rfl,rfl⟩:=e
 exact ⟨by rw [Nat.zero_add] at hc;exact hc,World.ownsRow.frozenAt hi i⟩
theorem OjI.store (h:OjI w1 dp gi n ci im v11 ops W) (i:Nat) (s:List Int):OjI w1 dp gi n ci (im.set i s) v11 ops (W.setCell ⟨gi,i,none⟩ (.string (strOfNums s))):=by
 obtain ⟨A,lv,hA,h1,h2⟩:=h.ex
 have hl:n=(strs im).length:=by rw [strs_length];exact h.len
 refine ⟨h.lt,h.chg.setCell (.inl (.inl rfl)) _,by rw [List.length_set];exact h.len,?_,A,lv,fun x hx=>⟨(hA x hx).1,by simpa using (hA x hx).2.1,(hA x hx).2.2⟩,?_,?_⟩
 · have hi:=h.img
   have e:strs (im.set i s)=(strs im).set i (.string (strOfNums s)):=by unfold strs;rw [List.map_set]
   rw [e]
   subst hl
   have:=World.ownsRow.stored hi i (.string (strOfNums s))
   unfold Ownv
   rw [List.length_set];exact this.1
 · refine Ownv.grown h1 (grown_setCell W ⟨gi,i,none⟩ _) ?_
   cases hx:v11.ownBlock with
   | none=>exact .inl rfl
   | some g =>
     refine .inr fun e=>?_
     injection e with e
     have:=(h1.lt g hx).1
     have:=h.lt
     simp only at e;omega
 · exact h2.keep (fun _ h=>h) fun k hk _=>heap_setCell_other W ⟨gi,i,none⟩ k _ (by have:=(hA k hk).1;have:=h.lt;simp only;omega)
theorem OjI.log (h:OjI w1 dp gi n ci im v11 ops W) (hb:Below W.heap.size W W3) {us:List Value} {os:List DOp} (hs:StepsV (Fr W W3) dp W3 us os) :
 ∃ lv, Ownv W3 w1.heap.size 89 v11 lv ∧ lv.length = ops.length ∧ w1.heap.size ≤ W3.heap.size ∧
   ∀ v' W4,Ownv W4 w1.heap.size 89 v' (lv++us)→W3.grownBy W4 v11.ownBlock→(v'.ownBlock=v11.ownBlock∨v'.ownBlock=some W3.heap.size)→OjI w1 dp gi n ci im v' (ops++os) W4:=by
 obtain ⟨A,lv,hA,h1,h2⟩:=h.ex
 refine ⟨lv,h1.below hb,h2.len,Nat.le_trans h.chg.size hb.size,fun v' W4 g1 g2 g3=>?_⟩
 have l7 : ∀ g,v11.ownBlock=some g→w1.heap.size≤g∧g<W.heap.size:=h1.lt
 have hle:=hb.size
 have hw1:=h.chg.size
 have hA' : ∀ x,A x∨Fr W W3 x→x<W3.heap.size∧v11.ownBlock ≠ some x:=fun x hx=>by
  rcases hx with hx | hx
  · exact ⟨by have:=(hA x hx).2.1;omega,(hA x hx).2.2⟩
  · exact ⟨hx.2,fun e=>by have:=(l7 x e).2;have:=hx.1;omega⟩
 have hk : ∀ x,A x∨Fr W W3 x→x<W3.heap.size→W4.heap[x]? = W3.heap[x]? := fun x hx hl=>g2.block x hl fun e=>(hA' x hx).2 e.symm
 have hc3:Chg (fun k=>k=gi∨w1.heap.size≤k) w1 W3:=h.chg.later hb hw1
 have hgl:=h.lt
 have hgi:v11.ownBlock ≠ some gi:=fun e=>by have:=(l7 gi e).1;omega
 refine ⟨h.lt,⟨g2.os.trans hc3.os,g2.tape.trans hc3.tape,g2.output.trans hc3.output,Nat.le_trans hc3.size g2.size,fun k hk hn=>(g2.block k (Nat.lt_of_lt_of_le hk hc3.size) fun e=>hn (.inr (l7 k e.symm).1)).trans (hc3.block k hk hn)⟩,h.len,?_,fun x=>A x∨Fr W W3 x,lv++us,fun x hx=>?_,g1,?_⟩
 · exact Ownv.grown (h.img.below hb) g2 (.inr fun e=>hgi e.symm)
 · have h8:=g2.size
   have h7:=hA' x hx
   refine ⟨?_,by omega,?_⟩
   · rcases hx with hx | hx
     · exact (hA x hx).1
     · have:=hx.1;omega
   · rcases g3 with e | e
     · rw [e];exact h7.2
     · rw [e];intro e;injection e with e;omega
 · exact (((h2.later hb).mono fun x h=>Or.inl h).app (hs.mono fun x h=>Or.inr h)).keep (fun _ h=>h) hk
theorem OjI.ready (h:OjI w1 dp gi n ci im v11 ops W) (hne:0<ops.length) : ∃ (A:Nat→Prop) (lv:List Value) (gr cr:Nat),v11 = .slice (some ⟨gr,0,none⟩) ops.length cr∧w1.heap.size≤gr∧(∀ k,A k→w1.heap.size≤k)∧StepsV A dp W lv ops ∧ ∀ (k:Nat) v,lv[k]? = some v→W.cell? ⟨gr,0+k,none⟩=some v:=by
 obtain ⟨A,lv,hA,h1,h2⟩:=h.ex
 obtain ⟨gr,cr,rfl,hs,hb,_⟩:=h1.form1 (by rw [h2.len];exact hne)
 refine ⟨A,lv,gr,cr,by rw [h2.len],hb,fun k hk=>(hA k hk).1,h2,fun k v hv=>?_⟩
 obtain ⟨b,off,e,hc⟩:=hs k v hv
 simp only [Option.some.injEq,Addr.mk.injEq,and_true] at e
 obtain ⟨rfl,rfl⟩:=e
 exact hc
theorem OjI.form (h:OjI w1 dp gi n ci im v11 ops W) : ∃ a c,v11 = .slice a ops.length c:=by
 obtain ⟨A,lv,hA,h1,h2⟩:=h.ex
 obtain ⟨a,c,rfl,_⟩:=h1.form
 exact ⟨a,c,by rw [h2.len]⟩
end
set_option maxRecDepth 100000 in
theorem prun_nil (a:Option Addr) (c:Nat) (w:World):Calls Tryd.prog 44 #[.slice a 0 c] w fun e w'=>e = .returned (.int .i64 0)∧w=w':=by
 go_enter Tryd.func44,Tryd.ntmps44
 go_wp2_with fail
 go_loopw [8] (fun i wr=>i = .int .i64 0∧wr=w) (fun i _=>0)
 case atStart=>exact ⟨rfl,rfl⟩
 case round =>
  obtain ⟨rfl,rfl⟩:=hrel
  have t0:decide ((0:Int)<((0:Nat):Int))=false:=by decide
  go_wp2_with fail
  go_ret
  exact ⟨rfl,rfl⟩
theorem Chg.putObj {S:Nat→Prop} {w w':World} (h:Chg S w w') {l:Nat} (hl:w.heap.size≤l∨S l) (o:Obj):Chg S w (w'.putObj l o):=by
 have hg:=grownBy_putObj' w' l o
 exact ⟨hg.os.trans h.os,hg.tape.trans h.tape,hg.output.trans h.output,Nat.le_trans h.size hg.size,fun k hk hn=>(hg.block k (Nat.lt_of_lt_of_le hk h.size) fun e=>by
  obtain rfl:=Option.some.inj e
  rcases hl with h1 | h1
  · omega
  · exact hn h1).trans (h.block k hk hn)⟩
theorem Bk.putObj {w:World} {b:Nat} {cs:Array Value} {t:TypeId} (h:Bk w b cs t) {l:Nat} (hne:b ≠ l) (o:Obj):Bk (w.putObj l o) b cs t :=
 ((grownBy_putObj' w l o).block b h.lt fun e=>hne (Option.some.inj e)).trans h
structure BdI (w2:World) (pp dp mx:Nat) (bl:List Nat) (W:World):Prop where
 lt:pp<w2.heap.size
 chg:Chg (fun k=>k=pp∨w2.heap.size≤k) w2 W
 kp : ∃ bv,PS W pp dp mx bv false∧Ownv W w2.heap.size 3 bv ((ints64 bl).map (Value.int .i64))
theorem BdI.start {w2:World} {pp dp mx:Nat} (h:PS w2 pp dp mx (.slice none 0 0) false):BdI w2 pp dp mx [] w2:=⟨Bk.lt h,Chg.refl _ _,_,h,Ownv.nil _ _ _⟩
theorem BdI.later {w2 W W3:World} {pp dp mx:Nat} {bl:List Nat} (h:BdI w2 pp dp mx bl W) (hb:Below W.heap.size W W3):BdI w2 pp dp mx bl W3:=by
 obtain ⟨bv,h1,h2⟩:=h.kp
 exact ⟨h.lt,h.chg.later hb h.chg.size,bv,h1.later hb,h2.below hb⟩
def IntR (W0:World) (i:Nat) (v:Value) (w:World):Prop := ∃ h,v = .slice (some ⟨h,0,none⟩) 1 1∧W0.heap.size≤h∧w.cell? ⟨h,0,none⟩=some (.int .i64 (i:Int))
theorem IntR.le {W0 w w':World} {i:Nat} {v:Value} {g:Option Nat} {O:Obj} (hg : ∀ k,g=some k→k<W0.heap.size) (h:IntR W0 i v w) (hl:LeA g O w w'):IntR W0 i v w':=by
 obtain ⟨k,h1,h2,h3⟩:=h
 refine ⟨k,h1,h2,?_⟩
 rw [World.cell?_of_block (hl.block _ (World.block_lt_of_cell? w _ h3) fun e=>by have:=hg _ e;simp only at this;omega)]
 exact h3
theorem BdI.more {w2 W:World} {pp dp mx:Nat} {bl:List Nat} (h:BdI w2 pp dp mx bl W) (hl:bl.length≤1000) (i:Nat) :
 ∃ bv O, PS W pp dp mx bv false ∧ (∃ a c, bv = .slice a bl.length c) ∧ (∀ k, bv.ownBlock = some k → k < W.heap.size) ∧ bv.ownBlock ≠ some pp ∧ (∀ k, k < w2.heap.size → bv.ownBlock ≠ some k) ∧
   (∀ w,LeA bv.ownBlock O W w → ∀ ty h,w.cell? ⟨h,0,none⟩=some (.int .i64 (i:Int)) → ∃ v' w',(Builtin.append_ #[33,33] ty #[bv,.slice (some ⟨h,0,none⟩) 1 1]).run Tryd.prog w = .ok v' w'∧LeA bv.ownBlock O w w'∧AppR W w2.heap.size 3 bv.ownBlock O ((ints64 bl).map (Value.int .i64)++[.int .i64 (i:Int)]) v' w') ∧
   (∀ w v',LeA bv.ownBlock O W w→AppR W w2.heap.size 3 bv.ownBlock O ((ints64 bl).map (Value.int .i64)++[.int .i64 (i:Int)]) v' w→(∃ a c,v' = .slice a (bl.length+1) c)∧BdI w2 pp dp mx (bl++[i]) (w.setCell ⟨pp,2,none⟩ v')):=by
 obtain ⟨bv,h1,h2⟩:=h.kp
 have hlen:((ints64 bl).map (Value.int .i64)).length=bl.length:=by rw [List.length_map,ints64_len]
 obtain ⟨O,hO⟩:=append_leA (P:=Tryd.prog) W w2.heap.size 33 3 (.int .i64 0) 8 (by omega) Tryd.underlying33 (by kernel_rfl) rfl bv _ h2 [.int .i64 (i:Int)] (by intro y hy;rw [List.mem_singleton] at hy;subst hy;rfl) (by rw [hlen];simp;omega) h.chg.size
 have hlt : ∀ k,bv.ownBlock=some k→w2.heap.size≤k∧k<W.heap.size:=h2.lt
 have hpp:=h.lt
 have hnp:bv.ownBlock ≠ some pp:=fun e=>by have:=(hlt pp e).1;omega
 refine ⟨bv,O,h1,?_,fun k hk=>(hlt k hk).2,hnp,fun k hk e=>by have:=(hlt k e).1;omega,fun w hw ty hb hc=>?_,fun w v' hw hv=>⟨?_,hpp,?_,v',?_,?_⟩⟩
 · obtain ⟨a,c,e,_⟩:=h2.form
   exact ⟨a,c,by rw [←hlen];exact e⟩
 · exact hO w hw ty ⟨hb,0,none⟩ 1 fun j u hj=>by
    match j with
    | 0=>simp at hj;subst hj;simpa [Addr.add] using hc
    | j+1=>simp at hj
 · obtain ⟨a,c,e,_⟩:=hv.own.form
   exact ⟨a,c,by rw [e,List.length_append,hlen];rfl⟩
 · refine Chg.setCell ?_ (.inl (.inl rfl)) _
   exact ⟨hw.os.trans h.chg.os,hw.tape.trans h.chg.tape,hw.output.trans h.chg.output,Nat.le_trans h.chg.size hw.size,fun k hk hn=>(hw.block k (Nat.lt_of_lt_of_le hk h.chg.size) fun e=>hn (.inr (hlt k e).1)).trans (h.chg.block k hk hn)⟩
 · have hp:Bk w pp #[.pointer (some ⟨dp,0,none⟩),.int .i64 (mx:Int),bv,.bool false] 81:=(hw.block pp (Bk.lt h1) hnp).trans h1
   unfold PS
   simpa using hp.set 2 v'
 · have he:(ints64 (bl++[i])).map (Value.int .i64)=(ints64 bl).map (Value.int .i64)++[.int .i64 (i:Int)]:=by rw [←ints64_snoc,List.map_append];rfl
   rw [he]
   refine Ownv.grown hv.own (grown_setCell w ⟨pp,2,none⟩ v') ?_
   cases hx:v'.ownBlock with
   | none=>exact .inl rfl
   | some g =>
     refine .inr fun e=>?_
     injection e with e
     have:=(hv.own.lt g hx).1
     simp only at e;omega
end
section
def sa:List Int:=List.replicate 116 97
def sb:List Int:=List.replicate 116 98
def sx:List Int:=List.replicate 116 120
set_option maxRecDepth 100000
end
end Go.Proofs.YtajhkncolbgkbaaDoor
