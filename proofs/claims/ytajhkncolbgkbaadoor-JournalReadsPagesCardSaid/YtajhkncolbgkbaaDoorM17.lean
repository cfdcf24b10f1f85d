/- Prf, Jrp, Jiv, Joi, Jop: joined by program, for one claim. -/
import Derived.Test.YtajhkncolbgkbaaDoorM13
import Derived.Test.YtajhkncolbgkbaaDoorM16
import Derived.Test.YtajhkncolbgkbaaDoorM9
import Derived.BigQuiet
set_option linter.unusedVariables false
set_option linter.unusedSimpArgs false
namespace Go.Proofs.YtajhkncolbgkbaaDoor
section
theorem read_calm {d:Dk} (h:Calm d) {i:Nat} (hi:17+i<d.p.length) {x:List Int} (hx:(nowI d)[17+i]? = some x):readP d false (i:Int)=if goodP x then (dataP x,0) else ([],7):=by
 have hr:d.read (17+(i:Int))=(x,0):=by
  unfold Dk.read
  rw [if_neg (by rw [h.1];decide),if_neg (by unfold Dk.is;simp;omega)]
  rw [show (17+(i:Int)).toNat=17+i by omega]
  unfold nowI at hx
  rw [List.getElem?_map] at hx
  rw [hx];rfl
 unfold readP
 rw [if_neg (by decide),if_neg (by omega),hr,if_neg (by simp)]
end
section
theorem applyW_same : ∀ (ws:List (Nat × List Int)) (im:List (List Int)),(∀ w∈ws,im[w.1]? = some w.2)→applyW im ws=im
 | [],_,_=>rfl
 | w :: ws, im, h => by
   show applyW (im.set w.1 w.2) ws=im
   have e:im.set w.1 w.2=im:=by
    have h1:=h w (List.mem_cons_self ..)
    apply List.ext_getElem?
    intro j
    rw [List.getElem?_set]
    by_cases hj:w.1=j
    · subst hj
      have hl:=(List.getElem?_eq_some_iff.1 h1).1
      rw [if_pos rfl,if_pos hl,h1]
    · rw [if_neg hj]
   rw [e]
   exact applyW_same ws im fun x hx=>h x (List.mem_cons_of_mem _ hx)
theorem img_calm {n t:Nat} {im:List (List Int)} (h:PInv n t im) (ht:t≤2 ^ 30) (hn:n≤65536):imgR im=im:=by
 unfold imgR
 have hbig:=h.big
 have hlen:=h.len
 rcases h.log with ⟨_,hzero⟩ | ⟨l,ht0,hl,h1,h2,h3⟩
 · have h0:im[0]? = some (zerosP 128):=by
    rw [List.getElem?_eq_getElem (show 0<im.length by omega),hzero _ (List.getElem_mem _)]
   rw [targets_zero (getD_of h0)];rfl
 · rw [targets_full (n:=n) hlen ht0 ht hn hl h1 h2]
   refine applyW_same _ _ fun w hw=>?_
   obtain ⟨i,hi,rfl⟩:=List.mem_mapIdx.1 hw
   rw [List.length_map] at hi
   simp only [List.getElem_map]
   have hx:=List.getElem?_eq_getElem hi
   rw [h3 _ (List.getElem_mem hi),getD_of (h2 i _ hx)]
theorem replay_calm {n t:Nat} {im:List (List Int)} (h:PInv n t im) (hb : ∀ x∈im,x.length=128∧Byts x) (ht:t≤2 ^ 30) (hn:n≤65536):(qDk im).run (replayP im)=(qDk im,0):=by
 have hlen:=h.len
 have hbig:=h.big
 have hin : ∀ w∈(targetsP im).mapIdx (fun j x=>(17+x,im.getD (1+j) [])),w.1<im.length∧w.2.length=128:=fun w hw=>by
  obtain ⟨j,hj,rfl⟩:=List.mem_mapIdx.1 hw
  have h1:=(targets_facts im).2 _ (List.getElem_mem hj)
  have h2:=(targets_facts im).1
  refine ⟨by simp only;omega,?_⟩
  simp only
  rw [List.getD_eq_getElem?_getD,List.getElem?_eq_getElem (show 1+j<im.length by omega)]
  exact (hb _ (List.getElem_mem _)).1
 have e:replayP im=(((targetsP im).mapIdx fun j x=>(17+x,im.getD (1+j) [])).map fun w=>DOp.w w.1 w.2)++(if targetsP im=[] then [] else [.f]):=by
  unfold replayP
  rw [mapIdx_map]
 obtain ⟨d1,a1,b1,c1⟩:=run_writes (ops:=if targetsP im=[] then [] else [.f]) ((targetsP im).mapIdx fun j x=>(17+x,im.getD (1+j) [])) (qDk im) (calm_q im) (by rw [now_q];exact fun x hx=>(hb x hx).1) (by simpa [qDk] using hin)
 have hi:=img_calm h ht hn
 rw [now_q] at b1
 rw [e]
 by_cases hT:targetsP im=[]
 · rw [if_pos hT,hT];rfl
 · rw [c1,if_neg hT,run_flush a1,b1]
   show (qDk (imgR im)).run []=_
   rw [hi];rfl
theorem mx_fold {t:Nat} : ∀ (l:List (List Int)) (m:Nat),m≤t→(∀ x∈l,numOf x≤t)→l.foldl (fun m s=>max m (numOf s)) m≤t
 | [],m,hm,_=>hm
 | x :: l, m, hm, h => by
   rw [List.foldl_cons]
   have:=h x (List.mem_cons_self ..)
   exact mx_fold l _ (by omega) fun y hy=>h y (List.mem_cons_of_mem _ hy)
theorem mx_ge : ∀ (l:List (List Int)) (m:Nat),m≤l.foldl (fun m s=>max m (numOf s)) m ∧ ∀ x∈l,numOf x≤l.foldl (fun m s=>max m (numOf s)) m
 | [],m=>⟨Nat.le_refl _,fun x hx=>by cases hx⟩
 | x :: l, m => by
   rw [List.foldl_cons]
   have ih:=mx_ge l (max m (numOf x))
   refine ⟨by omega,fun y hy=>?_⟩
   rcases List.mem_cons.1 hy with rfl | hy
   · have:=ih.1;omega
   · exact ih.2 y hy
theorem mx_calm {n t:Nat} {im:List (List Int)} (h:PInv n t im) (ht:t≤2 ^ 30):mxP im=t:=by
 have h1:mxP im≤t:=mx_fold im 0 (Nat.zero_le _) fun x hx=>by
  have:=h.all x hx
  unfold numOf
  rw [if_pos this.1];exact this.2
 rcases h.log with ⟨h0,_⟩ | ⟨l,ht0,hl,h2,_⟩
 · omega
 · have hm:=List.mem_of_getElem? h2
   have h3:=(mx_ge im 0).2 _ hm
   have hg:=(h.all _ hm).1
   have h4:numOf (sealP t (recP (l.map (·.1))))=t:=by unfold numOf;rw [if_pos hg,seal_num (by omega)]
   rw [h4] at h3
   exact Nat.le_antisymm h1 h3
def datD (im:List (List Int)) (i:Nat):List Int:=dataP (im.getD (17+i) [])
theorem read_q {n t:Nat} {im:List (List Int)} (h:PInv n t im) {i:Nat} (hi:17+i<n):readP (qDk im) false (i:Int)=(datD im i,0):=by
 have hil:17+i<im.length:=by rw [h.len];exact hi
 have hg:=(h.all _ (List.getElem_mem hil)).1
 have hp:(qDk im).p.length=im.length:=by unfold qDk;exact List.length_map _
 have r0:=read_calm (calm_q im) (i:=i) (by rw [hp];exact hil) (by rw [now_q];exact List.getElem?_eq_getElem hil)
 rw [r0,if_pos hg]
 unfold datD
 rw [List.getD_eq_getElem?_getD,List.getElem?_eq_getElem hil];rfl
end
section
theorem datD_hit {n t:Nat} {im:List (List Int)} {L:List (Nat × List Int)} (h:PInv n t im) (hl:BatchOk n L) {x:Nat × List Int} (hx:x∈L) (T:Nat):datD (wrote T L im) x.1=x.2:=by
 unfold datD
 rw [getD_of (wrote_data h.len hl hx)]
 exact seal_data (hl.data x hx).1
theorem datD_off {n:Nat} {im:List (List Int)} {L:List (Nat × List Int)} (hl:BatchOk n L) {i:Nat} (hi : ∀ x∈L,x.1 ≠ i) (T:Nat):datD (wrote T L im) i=datD im i:=by
 unfold datD
 rw [List.getD_eq_getElem?_getD,List.getD_eq_getElem?_getD,wrote_off hl hi]
theorem datD_len {n t:Nat} {im:List (List Int)} (h:PInv n t im) {i:Nat} (hi:17+i<n):(datD im i).length=116:=by
 have hil:17+i<im.length:=by rw [h.len];exact hi
 have hg:=(h.all _ (List.getElem_mem hil)).1
 unfold datD dataP
 rw [List.getD_eq_getElem?_getD,List.getElem?_eq_getElem hil]
 simp only [Option.getD_some,List.length_take,List.length_drop]
 have:=hg.1
 omega
structure InvJ (nn h bank:Nat) (s:List Int) (L:List (List Int)) (im:List (List Int)):Prop where
 head:datD im 0=headP bank s.length L.length
 bytes : ∀ j,j<s.length→(datD im (1+bank * h+j / 116))[j % 116]? = s[j]?
 strm:s=strmP L
 short : ∀ r∈L,r.length≤8000
 fits:s.length≤h * 116
 bank1:bank≤1
 half:h=(nn - 1) / 2∧1≤h∧nn≤200
theorem gatJ_all {rd:Nat→List Int × Int} {base:Nat} : ∀ k,(∀ i,i<k→(rd (base+i)).2=0)→gatJ rd base k = .ok ((List.range k).flatMap fun i=>(rd (base+i)).1)
 | 0,_=>rfl
 | k + 1, h => by
   rw [gatJ_more (gatJ_all k fun i hi=>h i (by omega)) (h k (by omega)),List.range_succ,List.flatMap_append]
   simp
theorem flat_at {f:Nat→List Int} : ∀ (K:Nat),(∀ i,i<K→(f i).length=116)→((List.range K).flatMap f).length=116 * K ∧ ∀ j,j<116 * K→((List.range K).flatMap f)[j]? = (f (j / 116))[j % 116]?
 | 0,_=>⟨rfl,fun j hj=>by omega⟩
 | K + 1, h => by
   obtain ⟨h1,h2⟩:=flat_at K fun i hi=>h i (by omega)
   have hK:=h K (by omega)
   rw [List.range_succ,List.flatMap_append]
   have e:[K].flatMap f=f K:=by simp
   rw [e]
   refine ⟨by rw [List.length_append,h1,hK];omega,fun j hj=>?_⟩
   by_cases hjl:j<116 * K
   · rw [List.getElem?_append_left (by omega)]
     exact h2 j hjl
   · rw [List.getElem?_append_right (by omega),h1]
     have e1:j / 116=K:=by omega
     rw [e1]
     congr 1;omega
theorem strm_cnt : ∀ (L:List (List Int)),2 * L.length≤(strmP L).length
 | []=>Nat.le_refl _
 | r :: L => by
   have ih:=strm_cnt L
   have e:strmP (r::L)=recS r++strmP L:=rfl
   rw [e,List.length_append,recS_len,List.length_cons];omega
theorem InvJ.open_ {nn h bank:Nat} {s:List Int} {L:List (List Int)} {im:List (List Int)} (hI:InvJ nn h bank s L im) (hlen : ∀ i,i<nn→(datD im i).length=116):openJ nn (fun i=>(datD im i,0)) = .ok (bank,s,L):=by
 obtain ⟨hh,h1,h200⟩:=hI.half
 have hf:=hI.fits
 have hb:=hI.bank1
 have hcnt:=strm_cnt L
 rw [←hI.strm] at hcnt
 have hU:hUsed (datD im 0)=s.length:=by rw [hI.head];exact headP_used (by omega)
 have hB:hBank (datD im 0)=bank:=by rw [hI.head];exact headP_bank hb
 have hC:hCnt (datD im 0)=L.length:=by rw [hI.head];exact headP_cnt (by omega)
 have hbh:bank * h≤1 * h:=Nat.mul_le_mul_right _ hb
 have hK:pagesFor s.length≤h:=by unfold pagesFor;omega
 obtain ⟨f1,f2⟩:=flat_at (f:=fun i=>datD im (1+bank * h+i)) (pagesFor s.length) fun i hi=>hlen _ (by omega)
 have hg:gatJ (fun i=>(datD im i,(0:Int))) (1+hBank (datD im 0) * ((nn - 1) / 2)) (pagesFor (hUsed (datD im 0))) = .ok ((List.range (pagesFor s.length)).flatMap fun i=>datD im (1+bank * h+i)):=by
  rw [hU,hB,←hh]
  exact gatJ_all _ fun _ _=>rfl
 have ht:((List.range (pagesFor s.length)).flatMap fun i=>datD im (1+bank * h+i)).take s.length=s:=by
  apply List.ext_getElem?
  intro j
  rw [List.getElem?_take]
  by_cases hj:j<s.length
  · rw [if_pos hj,f2 j (by unfold pagesFor;omega)]
    exact hI.bytes j hj
  · rw [if_neg hj,List.getElem?_eq_none (by omega)]
 have hres:=openJ_ok (n:=nn) (rd:=fun i=>(datD im i,(0:Int))) (by omega) rfl (by
  rintro (hx | hx | hx)
  · change 1<hBank (datD im 0) at hx;rw [hB] at hx;omega
  · change (nn - 1) / 2 * 116<hUsed (datD im 0) at hx;rw [hU] at hx;omega
  · apply hx
    show ∀ x∈(datD im 0).drop 9,x=0
    rw [hI.head];exact headP_tail _ _ _) hg (L:=L) (by
  show cutS (List.take (hUsed (datD im 0)) _)=some L
  rw [hU,ht,hI.strm]
  exact cut_strm L hI.short) hC.symm
 rw [hres]
 show Except.ok (hBank (datD im 0),List.take (hUsed (datD im 0)) _,L)=_
 rw [hB,hU,ht]
end
section
open Go.RowKit Go.Sort Go.Maps
theorem str_full {l:List Int} (h:l ≠ []):(strOfNums l).toList.isEmpty=false:=by
 cases hb:(strOfNums l).toList.isEmpty with
 | false=>rfl
 | true =>
   rw [List.isEmpty_iff,ByteArray.toList_eq] at hb
   have h1:(strOfNums l).data.toList.length=l.length:=by rw [Array.length_toList];exact strOfNums_size l
   rw [hb] at h1
   exact absurd (List.eq_nil_of_length_eq_zero h1.symm) h
theorem str_none:(strOfNums ([]:List Int)).toList.isEmpty=true:=by rw [ByteArray.toList_eq];rfl
def CutL (s0 rest:List Int) (done:List (List Int)):Prop:=cutS s0=(cutS rest).map (done ++ ·)∧Byts rest∧done.length+rest.length≤1000000
theorem CutL.start {s:List Int} (hb:Byts s) (hl:s.length≤1000000):CutL s s []:=⟨by cases cutS s <;> rfl,hb,by simpa using hl⟩
theorem CutL.fail {s0 rest:List Int} {done:List (List Int)} (h:CutL s0 rest done) (h0:rest ≠ []) (hn:nextS rest=none):cutS s0=none:=by rw [h.1,cutS_none h0 hn];rfl
theorem CutL.step {s0 rest r rest':List Int} {done:List (List Int)} (h:CutL s0 rest done) (h0:rest ≠ []) (hn:nextS rest=some (r,rest')):CutL s0 rest' (done++[r]):=by
 refine ⟨?_,fun x hx=>h.2.1 x ?_,?_⟩
 · rw [h.1,cutS_some h0 hn]
   cases cutS rest' <;> simp
 · unfold nextS at hn
   split at hn
   · cases hn
   · split at hn
     · cases hn
     · simp only [Option.some.injEq,Prod.mk.injEq] at hn
       rw [←hn.2] at hx
       exact List.mem_of_mem_drop hx
 · have:=nextS_lt hn
   have:=h.2.2
   rw [List.length_append];simp;omega
theorem CutL.done {s0:List Int} {done:List (List Int)} (h:CutL s0 [] done):cutS s0=some done:=by rw [h.1,cutS_nil];simp
structure JoI (w:World) (jb cb pp h bank:Nat) (s0 rest:List Int) (done:List (List Int)) (rv:Value) (W:World):Prop where
 js:JS W jb pp h bank s0 rv false
 cut:CutB W cb rest
 own:Ownv W w.heap.size 9 rv (strs done)
 bel:Below w.heap.size w W
 ap:jb ≠ cb∧w.heap.size≤jb∧w.heap.size≤cb
section
variable {w W W':World} {jb cb pp h bank:Nat} {s0 rest:List Int} {done:List (List Int)} {rv:Value}
theorem JoI.later (hI:JoI w jb cb pp h bank s0 rest done rv W) (hb:Below W.heap.size W W'):JoI w jb cb pp h bank s0 rest done rv W' :=
 ⟨hI.js.later hb,Bk.later hI.cut hb,hI.own.below hb,hI.bel.trans (hb.mono hI.bel.size),hI.ap⟩
theorem JoI.next (hI:JoI w jb cb pp h bank s0 rest done rv W) (rest':List Int):JoI w jb cb pp h bank s0 rest' done rv (W.setCell ⟨cb,0,none⟩ (.string (strOfNums rest'))) :=
 ⟨Bk.chg hI.js (chg_cell W cb 0 _) hI.ap.1,by simpa [CutB] using Bk.set hI.cut 0 (.string (strOfNums rest')),hI.own.grown (Chg.toRow (chg_cell W cb 0 _)) (.inr (Lib.ownBlock_ne hI.own hI.cut (by decide))),hI.bel.setCell (p:=⟨cb,0,none⟩) hI.ap.2.2 _,hI.ap⟩
theorem JoI.app (hI:JoI w jb cb pp h bank s0 rest done rv W) {r:List Int} {v':Value} (hg:W.grownBy W' rv.ownBlock) (hown:Ownv W' w.heap.size 9 v' (strs done++[.string (strOfNums r)])) :
 JS W' jb pp h bank s0 rv false∧JoI w jb cb pp h bank s0 rest (done++[r]) v' (W'.setCell ⟨jb,4,none⟩ v'):=by
 have hj:JS W' jb pp h bank s0 rv false:=(hg.block jb (Bk.lt hI.js) fun e=>Lib.ownBlock_ne hI.own hI.js (by decide) e.symm).trans hI.js
 have hc:CutB W' cb rest:=(hg.block cb (Bk.lt hI.cut) fun e=>Lib.ownBlock_ne hI.own hI.cut (by decide) e.symm).trans hI.cut
 refine ⟨hj,by simpa [JS] using Bk.set hj 4 v',Bk.chg hc (chg_cell W' jb 4 _) fun e=>hI.ap.1 e.symm,?_,?_,hI.ap⟩
 · rw [strs_snoc]
   exact hown.grown (Chg.toRow (chg_cell W' jb 4 _)) (.inr (Lib.ownBlock_ne hown hj (by decide)))
 · exact (hI.bel.grown hg hI.bel.size fun g hg'=>(hI.own.lt g hg').1).setCell (p:=⟨jb,4,none⟩) hI.ap.2.1 _
end
end
section
open Go.RowKit Go.Sort Go.Maps
def restLen (w:World) (cb:Nat):Nat:=match w.cell? ⟨cb,0,none⟩ with | some (.string s)=>s.size | _=>0
theorem restLen_of {w:World} {cb:Nat} {l:List Int} (h:CutB w cb l):restLen w cb=l.length:=by
 unfold restLen
 rw [show w.cell? ⟨cb,0,none⟩=some (.string (strOfNums l)) from Bk.cell h 0 rfl]
 exact strOfNums_size l
set_option maxRecDepth 100000 in
set_option maxHeartbeats 8000000 in
theorem jopen_any (w:World) (pp n:Nat) (hn:1≤n∧n≤200) (rd:Nat→List Int × Int) (hok : ∀ k,k<n→(rd k).2=0→(rd k).1.length=116∧Byts (rd k).1)
 (HL:Bx (∀ W,Below w.heap.size w W→Calls Tryd.prog 26 #[.pointer (some ⟨pp,0,none⟩)] W fun e w'=>e = .returned (.int .i64 (n:Int))∧W=w'))
 (HR:Bx (∀ W,Below w.heap.size w W → ∀ k:Nat,k<n→Calls Tryd.prog 27 #[.pointer (some ⟨pp,0,none⟩),.int .i64 (k:Int)] W fun e w'=>e = .returned (.tuple #[.string (strOfNums (rd k).1),.int .i64 (rd k).2])∧Below W.heap.size W w')) :
 Calls Tryd.prog 29 #[.pointer (some ⟨pp,0,none⟩)] w (JOpen w pp ((n - 1) / 2) (openJ n rd)):=by
 obtain ⟨R,hR⟩ : ∃ R,R=openJ n rd:=⟨_,rfl⟩
 rw [←hR]
 have HRR:=Bx.mk hR
 have HOK:=Bx.mk hok
 have HN:=Bx.mk hn
 obtain ⟨n1,hn1⟩ : ∃ n1,n1=n - 1:=⟨_,rfl⟩
 obtain ⟨h,hh⟩ : ∃ h,h=(n - 1) / 2:=⟨_,rfl⟩
 rw [←hh]
 have HH:=Bx.mk hh
 have e1:IntKind.i64.wrap ((n:Int) - 1)=(n1:Int):=by rw [IntWalk.i64_in _ (by omega)];omega
 have d1:((n1:Int)).tdiv 2=(h:Int):=by rw [Int.tdiv_eq_ediv_of_nonneg (by omega)];omega
 have d2:(n1:Int) / 2=(h:Int):=by omega
 have d3:IntKind.i64.wrap (h:Int)=(h:Int):=IntWalk.i64_in _ (by omega)
 clear hR hok hn hn1 hh
 go_enter Tryd.func29,Tryd.ntmps29
 go_wp2_with fail
 refine (HL.out _ (Below.refl _ _)).mono ?_
 rintro _ _ ⟨rfl,rfl⟩
 go_upto_region 2 with fail
 clear e1 d1 d2 d3 HL
 generalize hW:World.alloc _ _=W
 have HB:Bx (Below w.heap.size w W):=⟨by rw [←hW];exact (Below.refl _ _).alloc (Nat.le_refl _) _⟩
 have HJ:Bx (JS W w.heap.size pp h 0 [] (.slice none 0 0) false):=⟨by rw [←hW];exact blk_new _ _ _ rfl⟩
 obtain ⟨jb,hjb⟩ : ∃ jb,jb=w.heap.size:=⟨_,rfl⟩
 rw [←hjb] at HJ ⊢
 have HJB:=Bx.mk hjb
 clear hW hjb
 have c1:=Bk.cell HJ.out 1 rfl
 by_cases hs:h<1
 · have t0:decide ((h:Int)<1)=true:=by simp;omega
   have t0b:decide (h<1)=true:=by simpa using hs
   have HF:Bx (R = .error 1):=⟨by rw [HRR.out];exact openJ_small (by rw [←HH.out];exact hs)⟩
   clear hs
   go_wp2_with fail
   go_ret2
   rw [HF.out]
   exact ⟨HB.out,by decide,rfl⟩
 · have t0:decide ((h:Int)<1)=false:=by simp;omega
   have t0b:decide (h<1)=false:=by simpa using hs
   have HS:Bx (¬(n - 1) / 2<1):=⟨by rw [←HH.out];exact hs⟩
   have hr0:=Bx.mk (HR.out W HB.out 0 (by have:=HN.out;omega))
   clear hs
   go_upto_region 5 with (go_at_call 27;refine hr0.out.mono ?_;rintro _ w2 ⟨rfl,hb2⟩)
   have HB2:=Bx.mk (HB.out.trans (hb2.mono HB.out.size))
   have HJ2:=Bx.mk (HJ.out.later hb2)
   clear hb2 hr0 HJ HB c1 t0 t0b
   by_cases h0:(rd 0).2=0
   case neg =>
    have n1:((rd 0).2 != 0)=true:=by simpa using h0
    have n2:((rd 0).2 == 0)=false:=by simpa using h0
    have HF:Bx ((rd 0).2 ≠ 0∧R = .error (rd 0).2):=⟨h0,by rw [HRR.out];exact openJ_read HS.out h0⟩
    generalize (rd 0).2=er at *
    clear h0
    go_wp2_with fail
    go_ret2
    rw [HF.out.2]
    exact ⟨HB2.out,HF.out.1,rfl⟩
   case pos =>
    obtain ⟨hdl,hdb⟩:=HOK.out 0 (by have:=HN.out;omega) h0
    have H0:=Bx.mk h0
    rw [h0]
    obtain ⟨hd,hhd⟩ : ∃ hd,hd=(rd 0).1:=⟨_,rfl⟩
    rw [←hhd] at hdl hdb ⊢
    have HHD:=Bx.mk hhd
    have HDL:=Bx.mk hdl
    have HDB:=Bx.mk hdb
    obtain ⟨x0,hx0⟩ : ∃ x0,hd[0]? = some x0:=⟨_,List.getElem?_eq_getElem (by omega)⟩
    have hxb:=hdb x0 (List.mem_of_getElem? hx0)
    obtain ⟨hk2,hget⟩:=str_get hdb hx0
    obtain ⟨bank,hbk⟩ : ∃ bank,bank=hBank hd:=⟨_,rfl⟩
    have hxk:x0=(bank:Int):=by rw [hbk];unfold hBank;rw [List.getD_eq_getElem?_getD,hx0];simp;omega
    subst hxk
    have HBK:=Bx.mk hbk
    have hsz:(strOfNums hd).size=116:=by rw [strOfNums_size];exact hdl
    have hx8:IntKind.i64.wrap (bank:Int)=(bank:Int):=IntWalk.i64_in _ (by omega)
    have c2:=Bk.cell HJ2.out 2 rfl
    have f2:=Bk.frozen HJ2.out 2
    clear hhd hdl hdb hx0 hbk h0
    generalize hHD:strOfNums hd=HDs at *
    go_upto_region 8 with fail
    have HJ3:Bx (JS (w2.setCell ⟨jb,2,none⟩ (.int .i64 (bank:Int))) jb pp h bank [] (.slice none 0 0) false):=⟨by simpa [JS] using Bk.set HJ2.out 2 (.int .i64 (bank:Int))⟩
    have HB3:Bx (Below w.heap.size w (w2.setCell ⟨jb,2,none⟩ (.int .i64 (bank:Int)))):=⟨HB2.out.setCell (by show w.heap.size≤jb;rw [HJB.out];exact Nat.le_refl _) _⟩
    generalize World.setCell w2 _ _=w3 at *
    clear c2 f2 HJ2 HB2 hget hk2 hx8 hxb
    have hex1:HDs.extract 1 5=strOfNums ((hd.drop 1).take 4):=by rw [←hHD,str_extract]
    have hex2:HDs.extract 5 9=strOfNums ((hd.drop 5).take 4):=by rw [←hHD,str_extract]
    have hex3:HDs.extract 9 116=strOfNums (hd.drop 9):=by rw [←hHD,str_extract,List.take_of_length_le (by rw [List.length_drop,HDL.out];omega)]
    have hnm1:=Bx.mk fun W=>jnumber_any ((hd.drop 1).take 4) (fun x hx=>HDB.out x (List.mem_of_mem_drop (List.mem_of_mem_take hx))) (by rw [List.length_take];omega) W
    have hnm2:=Bx.mk fun W=>jnumber_any ((hd.drop 5).take 4) (fun x hx=>HDB.out x (List.mem_of_mem_drop (List.mem_of_mem_take hx))) (by rw [List.length_take];omega) W
    have hub:numK ((hd.drop 1).take 4)<2 ^ 32:=by
     have h1:=numK_lt (l:=(hd.drop 1).take 4) (fun x hx=>HDB.out x (List.mem_of_mem_drop (List.mem_of_mem_take hx)))
     rw [show ((hd.drop 1).take 4).length=4 by rw [List.length_take,List.length_drop,HDL.out];rfl] at h1
     exact h1
    obtain ⟨T,hT1,hT2⟩:=jtrim_any (hd.drop 9) (fun x hx=>HDB.out x (List.mem_of_mem_drop hx)) (by rw [List.length_drop,HDL.out];decide)
    have HT1:=Bx.mk hT1
    obtain ⟨u,hu⟩ : ∃ u,u=hUsed hd:=⟨_,rfl⟩
    obtain ⟨ct,hct⟩ : ∃ ct,ct=hCnt hd:=⟨_,rfl⟩
    have HU:=Bx.mk hu
    have HCT:=Bx.mk hct
    rw [show numK ((hd.drop 1).take 4)=u from hu.symm] at hnm1 hub
    rw [show numK ((hd.drop 5).take 4)=ct from hct.symm] at hnm2
    generalize strOfNums ((hd.drop 1).take 4)=S15 at *
    generalize strOfNums ((hd.drop 5).take 4)=S59 at *
    generalize strOfNums (hd.drop 9)=S9 at *
    have hT3:Bx (T.toList.isEmpty=true ↔ ∀ x∈hd.drop 9,x=0):=⟨hT2⟩
    clear hT1 hT2 hu hct hHD
    refine wp_region_relT 6 (fun ii v w'=>match ii with
     | 0=>v = .string HDs
     | 1=>v = .string S15
     | 2=>v = .int .i64 (u:Int)
     | 3=>v = .string HDs
     | 4=>v = .string S59
     | _=>v = .int .i64 (ct:Int)) (by kernel_rfl) (by kernel_rfl) 141 (by kernel_rfl) (by rfl) ?_ ?_ ?_
    · intro ii hi v u1 u2 hb h
      match ii,hi with
      | 0,_=>exact h
      | 1,_=>exact h
      | 2,_=>exact h
      | 3,_=>exact h
      | 4,_=>exact h
      | 5,_=>exact h
    · intro ii o hi ho ρ wx hb hc1 hc2 hc3 hk
      match ii,hi with
      | 0, _ =>
        obtain rfl:=Option.some.inj ho
        have g0:ρ (.tmp 5) = .string HDs:=hk 5 (by simp [Op.operands,Call.operands])
        clear hk hb HR HJ3 HB3 HOK HT1 hT3
        go_simp
        exact Below.refl _ _
      | 1, _ =>
        obtain rfl:=Option.some.inj ho
        have g0:ρ (.tmp 42) = .string HDs:=hk 42 (by simp [Op.operands,Call.operands])
        clear hk hb HR HJ3 HB3 HOK HT1 hT3
        go_simp
        exact Below.refl _ _
      | 2, _ =>
        obtain rfl:=Option.some.inj ho
        have g0:ρ (.tmp 43) = .string S15:=hk 43 (by simp [Op.operands,Call.operands])
        have h4:=(hnm1.out wx).mono fun e w' (h:e = .returned (.int .i64 (u:Int))∧w'=wx)=>(⟨h.1,h.2 ▸ Below.refl _ _⟩:e = .returned (.int .i64 (u:Int))∧Below wx.heap.size wx w')
        have H4:=Bx.mk h4
        clear h4
        clear hk hb HR HJ3 HB3 HOK HT1 hT3
        go_simp
        all_goals exact H4.out
      | 3, _ =>
        obtain rfl:=Option.some.inj ho
        have g0:ρ (.tmp 5) = .string HDs:=hk 5 (by simp [Op.operands,Call.operands])
        clear hk hb HR HJ3 HB3 HOK HT1 hT3
        go_simp
        exact Below.refl _ _
      | 4, _ =>
        obtain rfl:=Option.some.inj ho
        have g0:ρ (.tmp 45) = .string HDs:=hk 45 (by simp [Op.operands,Call.operands])
        clear hk hb HR HJ3 HB3 HOK HT1 hT3
        go_simp
        exact Below.refl _ _
      | 5, _ =>
        obtain rfl:=Option.some.inj ho
        have g0:ρ (.tmp 46) = .string S59:=hk 46 (by simp [Op.operands,Call.operands])
        have h4:=(hnm2.out wx).mono fun e w' (h:e = .returned (.int .i64 (ct:Int))∧w'=wx)=>(⟨h.1,h.2 ▸ Below.refl _ _⟩:e = .returned (.int .i64 (ct:Int))∧Below wx.heap.size wx w')
        have H4:=Bx.mk h4
        clear h4
        clear hk hb HR HJ3 HB3 HOK HT1 hT3
        go_simp
        all_goals exact H4.out
    · intro vs w4 hlen hb hR
      match vs,hlen with
      | [v0, v1, v2, v3, v4, v5], _ =>
        have r0:v0 = .string HDs:=hR 0 v0 rfl
        have r1:v1 = .string S15:=hR 1 v1 rfl
        have r2:v2 = .int .i64 (u:Int):=hR 2 v2 rfl
        have r3:v3 = .string HDs:=hR 3 v3 rfl
        have r4:v4 = .string S59:=hR 4 v4 rfl
        have r5:v5 = .int .i64 (ct:Int):=hR 5 v5 rfl
        clear hR
        subst r0 r1 r2 r3 r4 r5
        have HJ4:=Bx.mk (HJ3.out.later hb)
        have HB4:=Bx.mk (HB3.out.trans (hb.mono HB3.out.size))
        clear hb HJ3 HB3 hnm1 hnm2 hex1 hex2
        simp only [puts,List.take_succ_cons,List.take_zero,List.drop_succ_cons,List.drop_zero,List.map_cons,List.map_nil,List.zip_cons_cons,List.zip_nil_right,List.foldl_cons,List.foldl_nil]
        simp only [Act.put,List.setIfInBounds_toArray,List.set_cons_succ,List.set_cons_zero]
        go_upto_region 9 with fail
        have hh1000:h≤1000:=by have:=HH.out;have:=HN.out;omega
        have hsi:=Bx.mk (jsize_any w4 jb pp h bank [] (.slice none 0 0) false HJ4.out hh1000)
        have c2:=Bk.cell HJ4.out 2 rfl
        by_cases hb1:1<bank
        · have t1:decide ((bank:Int) > 1)=true:=by simp;omega
          have t1b:decide (1<bank)=true:=by simpa using hb1
          have HF:Bx (R = .error 7):=⟨by rw [HRR.out];exact openJ_bad HS.out H0.out (.inl (by rw [←HHD.out,←HBK.out];exact hb1))⟩
          clear hb1 hsi
          go_wp2_with fail
          go_ret2
          rw [HF.out]
          exact ⟨HB4.out,by decide,rfl⟩
        · have t1:decide ((bank:Int) > 1)=false:=by simp;omega
          have t1b:decide (1<bank)=false:=by simpa using hb1
          have HB1:Bx (bank≤1):=⟨by omega⟩
          clear hb1
          obtain ⟨h6,hh6⟩ : ∃ h6,h6=h * 116:=⟨_,rfl⟩
          rw [←hh6] at hsi
          have HH6:=Bx.mk hh6
          by_cases hb2:h6<u
          · have t2:decide ((u:Int) > (h6:Int))=true:=by simp;omega
            have t2b:decide (h6<u)=true:=by simpa using hb2
            have HF:Bx (R = .error 7):=⟨by rw [HRR.out];exact openJ_bad HS.out H0.out (.inr (.inl (by rw [←HHD.out,←HH.out,←HU.out,←HH6.out];exact hb2)))⟩
            clear hb2 hh6
            go_wp2_with fail
            refine hsi.out.mono ?_
            rintro _ _ ⟨rfl,rfl⟩
            go_wp2_with fail
            go_ret2
            rw [HF.out]
            exact ⟨HB4.out,by decide,rfl⟩
          · have t2:decide ((u:Int) > (h6:Int))=false:=by simp;omega
            have t2b:decide (h6<u)=false:=by simpa using hb2
            have HU6:Bx (u≤h * 116):=⟨by omega⟩
            clear hb2 hh6
            cases hT:T.toList.isEmpty with
            | false =>
              have HF:Bx (R = .error 7):=⟨by rw [HRR.out];exact openJ_bad HS.out H0.out (.inr (.inr (by rw [←HHD.out];intro ha;have:=hT3.out.2 ha;rw [hT] at this;cases this)))⟩
              clear hT3
              go_wp2_with fail
              refine hsi.out.mono ?_
              rintro _ _ ⟨rfl,rfl⟩
              go_wp2_with fail
              refine (HT1.out _).mono ?_
              rintro _ w5 ⟨rfl,hb5⟩
              have HB5:=Bx.mk (HB4.out.trans (hb5.mono HB4.out.size))
              clear hb5
              go_wp2_with fail
              go_ret2
              rw [HF.out]
              exact ⟨HB5.out,by decide,rfl⟩
            | true =>
              have HNB:Bx (¬headBad ((n - 1) / 2) (rd 0).1):=⟨by
               rw [←HHD.out,←HH.out]
               intro hbad
               rcases hbad with hx | hx | hx
               · rw [←HBK.out] at hx;have:=HB1.out;omega
               · rw [←HU.out] at hx;have:=HU6.out;omega
               · exact hx (hT3.out.1 hT)⟩
              clear hT3
              go_wp2_with fail
              refine hsi.out.mono ?_
              rintro _ _ ⟨rfl,rfl⟩
              go_wp2_with fail
              refine (HT1.out _).mono ?_
              rintro _ w5 ⟨rfl,hb5⟩
              have HJ5:=Bx.mk (HJ4.out.later hb5)
              have HB5:=Bx.mk (HB4.out.trans (hb5.mono HB4.out.size))
              clear hb5 HT1 hsi HJ4 HB4 hex3 c2
              go_upto_region 12 with fail
              obtain ⟨K,hK⟩ : ∃ K,K=pagesFor u:=⟨_,rfl⟩
              have HK:Bx (K=(u+115) / 116∧K≤h):=⟨by have:=HU6.out;unfold pagesFor at hK;omega⟩
              have HKK:=Bx.mk hK
              have hK1000:K≤1000:=by have:=HK.out.2;omega
              clear hK t1 t1b t2 t2b hT
              have e0 : ∀ k:Nat,k≤1000→IntKind.i64.wrap ((k:Int) * 116)=((k * 116:Nat):Int):=fun k hk=>by rw [IntWalk.i64_in _ (by omega)];omega
              obtain ⟨base,hbase⟩ : ∃ base,base=1+bank * h:=⟨_,rfl⟩
              have HBASE:Bx (base=1+bank * h∧base+h≤n):=⟨hbase,by
               have h1:bank * h≤1 * h:=Nat.mul_le_mul_right _ HB1.out
               have h2:=HH.out;have h3:=HS.out;omega⟩
              have HE0:=Bx.mk e0
              clear hbase e0
              go_loopw [2,3,9] (fun v2 v3 v9 wr => ∃ (k:Nat) (s:List Int),k≤K∧v2 = .pointer none∧v3 = .int .i64 0∧v9 = .int .i64 k∧Bx (gatJ rd base k = .ok s∧s.length=116 * k∧Byts s)∧Bx (JS wr jb pp h bank s (.slice none 0 0) false)∧Bx (Below w.heap.size w wr)) (fun _ _ i _=>K - (intOf i).toNat)
              case atStart=>exact ⟨0,[],Nat.zero_le _,rfl,rfl,rfl,⟨rfl,rfl,fun x hx=>by cases hx⟩,HJ5,HB5⟩
              case round =>
               clear HJ5 HB5
               obtain ⟨k,s,hk,rfl,rfl,rfl,HG,HJ,HB⟩:=hrel
               have e0:=HE0.out k (by omega)
               obtain ⟨k6,hk6⟩ : ∃ k6,k6=k * 116:=⟨_,rfl⟩
               rw [←hk6] at e0
               have HK6:=Bx.mk hk6
               by_cases hlt:k<K
               · have hku:k6<u:=by have:=HK.out.1;omega
                 have t0:decide ((k6:Int)<(u:Int))=true:=by simp;omega
                 have t0b:decide (k6<u)=true:=by simpa using hku
                 obtain ⟨pg,hpg⟩ : ∃ pg,pg=base+k:=⟨_,rfl⟩
                 have hpn:pg<n:=by have:=HBASE.out.2;have:=HK.out.2;omega
                 have hpa:=jpage_any wr jb pp h bank s (.slice none 0 0) false HJ.out hh1000 bank k HB1.out (by omega)
                 rw [show 1+bank * h+k=pg by rw [hpg,HBASE.out.1]] at hpa
                 replace hpa:=Bx.mk hpa
                 have hrd:=Bx.mk (HR.out wr HB.out pg hpn)
                 have hdat:=HOK.out pg hpn
                 have HPG:=Bx.mk hpg
                 have Hlt:=Bx.mk hlt
                 have c2:=Bk.cell HJ.out 2 rfl
                 clear hku hlt hpg hpn hk6
                 by_cases her:(rd pg).2=0
                 · obtain ⟨hd1,hd2⟩:=hdat her
                   have HX:Bx (gatJ rd base (k+1) = .ok (s++(rd pg).1)∧(s++(rd pg).1).length=116 * (k+1)∧Byts (s++(rd pg).1)):=⟨by rw [HPG.out];exact gatJ_more HG.out.1 (by rw [←HPG.out];exact her),by rw [List.length_append,HG.out.2.1,hd1];omega,fun x hx=>by
                    rcases List.mem_append.1 hx with h | h
                    · exact HG.out.2.2 x h
                    · exact hd2 x h⟩
                   rw [her] at hrd
                   obtain ⟨x,hx⟩ : ∃ x,x=(rd pg).1:=⟨_,rfl⟩
                   rw [←hx] at hrd HX hd1
                   have z1:(strOfNums x).size=116:=by rw [strOfNums_size];exact hd1
                   have z2:(strOfNums s).size=116 * k:=by rw [strOfNums_size];exact HG.out.2.1
                   have ha:strOfNums s++strOfNums x=strOfNums (s++x):=str_append _ _
                   clear hdat her hd1 hd2 hx
                   go_wp2_with fail
                   refine hpa.out.mono ?_
                   rintro _ _ ⟨rfl,rfl⟩
                   go_upto_region 15 with (go_at_call 27;refine hrd.out.mono ?_;rintro _ w6 ⟨rfl,hb6⟩)
                   have hJ6:=HJ.out.later hb6
                   have c3:=Bk.cell hJ6 3 rfl
                   have f3:=Bk.frozen hJ6 3
                   have HJ7:Bx (JS (w6.setCell ⟨jb,3,none⟩ (.string (strOfNums (s++x)))) jb pp h bank (s++x) (.slice none 0 0) false):=⟨by simpa [JS] using Bk.set hJ6 3 (.string (strOfNums (s++x)))⟩
                   have HB7:Bx (Below w.heap.size w (w6.setCell ⟨jb,3,none⟩ (.string (strOfNums (s++x))))):=⟨(HB.out.trans (hb6.mono HB.out.size)).setCell (by show w.heap.size≤jb;rw [HJB.out];exact Nat.le_refl _) _⟩
                   clear hJ6 hb6 hrd hpa HJ HB c2
                   generalize strOfNums (s++x)=S7 at *
                   generalize strOfNums s=S6 at *
                   generalize strOfNums x=S5 at *
                   go_wp2_with fail
                   go_roundw
                   case rel=>exact ⟨k+1,s++x,by have:=Hlt.out;omega,rfl,rfl,by go_num,HX,HJ7,HB7⟩
                   case measure=>have:=Hlt.out;simp [intOf];omega
                 · have n1:((rd pg).2 != 0)=true:=by simpa using her
                   have n2:((rd pg).2 == 0)=false:=by simpa using her
                   have HF:Bx ((rd pg).2 ≠ 0∧R = .error (rd pg).2):=⟨her,by
                    rw [HRR.out]
                    refine openJ_gat HS.out H0.out HNB.out ?_
                    rw [←HHD.out,←HBK.out,←HH.out,←HU.out,←HKK.out,←HBASE.out.1]
                    refine gatJ_err (k:=k+1) ?_ Hlt.out
                    rw [HPG.out]
                    exact gatJ_fail HG.out.1 (by rw [←HPG.out];exact her)⟩
                   generalize (rd pg).2=er at *
                   clear hdat her
                   go_wp2_with fail
                   refine hpa.out.mono ?_
                   rintro _ _ ⟨rfl,rfl⟩
                   go_upto_region 15 with (go_at_call 27;refine hrd.out.mono ?_;rintro _ w6 ⟨rfl,hb6⟩)
                   have HB6:=Bx.mk (HB.out.trans (hb6.mono HB.out.size))
                   clear hb6 hrd hpa HJ HB c2
                   go_wp2_with fail
                   go_ret2
                   rw [HF.out.2]
                   exact ⟨HB6.out,HF.out.1,rfl⟩
               · obtain rfl:k=K:=by omega
                 have hku : ¬k6<u:=by have:=HK.out.1;omega
                 have t0:decide ((k6:Int)<(u:Int))=false:=by simp;omega
                 have t0b:decide (k6<u)=false:=by simpa using hku
                 have HGK:Bx (gatJ rd (1+hBank (rd 0).1 * ((n - 1) / 2)) (pagesFor (hUsed (rd 0).1)) = .ok s):=⟨by rw [←HHD.out,←HBK.out,←HH.out,←HU.out,←HKK.out,←HBASE.out.1];exact HG.out.1⟩
                 have z2:(strOfNums s).size=116 * k:=by rw [strOfNums_size];exact HG.out.2.1
                 have hus:u≤116 * k:=by omega
                 obtain ⟨s0,hs0⟩ : ∃ s0,s0=s.take u:=⟨_,rfl⟩
                 have hex:(strOfNums s).extract 0 u=strOfNums s0:=by rw [hs0,str_extract];rfl
                 have HS0:Bx (s0=s.take (hUsed (rd 0).1)∧Byts s0∧s0.length≤1000000):=⟨by rw [hs0,←HHD.out,←HU.out],by rw [hs0];exact fun x hx=>HG.out.2.2 x (List.mem_of_mem_take hx),by rw [hs0,List.length_take,HG.out.2.1];omega⟩
                 have b1:(0:Int)≤(u:Int):=by omega
                 have b2:(u:Int)≤((116 * k:Nat):Int):=by omega
                 have b3:(u:Int)≤116 * (k:Int):=by omega
                 have c3:=Bk.cell HJ.out 3 rfl
                 have f3:=Bk.frozen HJ.out 3
                 have HJ8:Bx (JS (wr.setCell ⟨jb,3,none⟩ (.string (strOfNums s0))) jb pp h bank s0 (.slice none 0 0) false):=⟨by simpa [JS] using Bk.set HJ.out 3 (.string (strOfNums s0))⟩
                 have HB8:Bx (Below w.heap.size w (wr.setCell ⟨jb,3,none⟩ (.string (strOfNums s0)))):=⟨HB.out.setCell (by show w.heap.size≤jb;rw [HJB.out];exact Nat.le_refl _) _⟩
                 clear hku HJ HB hs0
                 generalize hS0:strOfNums s0=S0 at *
                 generalize strOfNums s=S6 at *
                 go_upto_region 19 with fail
                 generalize World.setCell wr _ _=w8 at *
                 clear c3 f3 hex b1 b2 b3 t0 t0b e0
                 have c3:=Bk.cell HJ8.out 3 rfl
                 rw [hS0] at c3
                 go_upto_region 21 with fail
                 generalize hW9:World.alloc w8 _=w9
                 have HI9:Bx (JoI w jb w8.heap.size pp h bank s0 s0 [] (.slice none 0 0) w9):=⟨by
                  have hb9:=bl1 hW9
                  have h9:=HB8.out.size
                  have h10:=Bk.lt HJ8.out
                  exact ⟨HJ8.out.later hb9,by rw [←hW9,←hS0];exact blk_new _ _ _ rfl,Ownv.nil _ _ _,HB8.out.trans (hb9.mono h9),by omega,by rw [HJB.out];exact Nat.le_refl _,h9⟩⟩
                 obtain ⟨cb,hcb⟩ : ∃ cb,cb=w8.heap.size:=⟨_,rfl⟩
                 rw [←hcb] at HI9 ⊢
                 clear hW9 hcb c3 HJ8 HB8
                 go_loopw [2,3] (fun v2 v3 wr => ∃ (rest:List Int) (done:List (List Int)) (rv:Value),v2 = .pointer none∧v3 = .int .i64 0∧Bx (CutL s0 rest done)∧Bx (JoI w jb cb pp h bank s0 rest done rv wr)) (fun _ _ wr=>restLen wr cb)
                 case atStart=>exact ⟨s0,[],_,rfl,rfl,⟨CutL.start HS0.out.2.1 HS0.out.2.2⟩,HI9⟩
                 case round =>
                  clear HI9
                  obtain ⟨rest,done,rv,rfl,rfl,HC,HI⟩:=hrel
                  have c0:=Bk.cell HI.out.cut 0 rfl
                  by_cases h0:rest=[]
                  · subst h0
                    have tE:=str_none
                    have HD:=Bx.mk HC.out.done
                    obtain ⟨ra,rc,rfl,-⟩:=HI.out.own.form
                    have c4:=Bk.cell HI.out.js 4 rfl
                    have hsl:(strs done).length=done.length:=strs_length _
                    rw [hsl] at c4
                    by_cases hct:done.length=ct
                    · have HF:Bx (R = .ok (bank,s0,done)):=⟨by
                       rw [HRR.out]
                       have h1:=openJ_ok HS.out H0.out HNB.out HGK.out (by rw [←HS0.out.1];exact HD.out) (by rw [←HHD.out,←HCT.out];exact hct)
                       rw [h1,←HS0.out.1,←HHD.out,←HBK.out]⟩
                      have n1:((done.length:Int) != (ct:Int))=false:=by simp [hct]
                      have n2:((done.length:Int) == (ct:Int))=true:=by simp [hct]
                      have n3:decide ((done.length:Int)=(ct:Int))=true:=by simp [hct]
                      have n4:decide (done.length=ct)=true:=by simp [hct]
                      clear hct
                      generalize strOfNums ([]:List Int)=E at *
                      go_wp2_with fail
                      go_ret2
                      rw [HF.out]
                      exact ⟨HI.out.bel,jb,_,rfl,HI.out.js,HI.out.own,HI.out.ap.2.1⟩
                    · have HF:Bx (R = .error 7):=⟨by
                       rw [HRR.out]
                       exact openJ_cnt HS.out H0.out HNB.out HGK.out (by rw [←HS0.out.1];exact HD.out) (by rw [←HHD.out,←HCT.out];exact hct)⟩
                      have n1:((done.length:Int) != (ct:Int))=true:=by simp;omega
                      have n2:((done.length:Int) == (ct:Int))=false:=by simp;omega
                      have n3:decide ((done.length:Int)=(ct:Int))=false:=by simp;omega
                      have n4:decide (done.length=ct)=false:=by simp;omega
                      clear hct
                      generalize strOfNums ([]:List Int)=E at *
                      go_wp2_with fail
                      go_ret2
                      rw [HF.out]
                      exact ⟨HI.out.bel,by decide,rfl⟩
                  · have tE:=str_full h0
                    have hrl:rest.length≤1000000:=by have:=HC.out.2.2;omega
                    cases hn:nextS rest with
                    | none =>
                      have HF:Bx (R = .error 7):=⟨by
                       rw [HRR.out]
                       exact openJ_cut HS.out H0.out HNB.out HGK.out (by rw [←HS0.out.1];exact HC.out.fail h0 hn)⟩
                      have hnx:=Bx.mk (jnext_no wr cb rest HC.out.2.1 hrl HI.out.cut hn)
                      generalize strOfNums rest=E at *
                      clear h0 hrl hn
                      go_wp2_with fail
                      first | (refine hnx.out.mono ?_) | (rw [enters_of Tryd.func53 (by kernel_rfl) rfl _ _];refine hnx.out.mono ?_)
                      rintro _ _ ⟨rfl,rfl⟩
                      go_wp2_with fail
                      go_ret2
                      rw [HF.out]
                      exact ⟨HI.out.bel,by decide,rfl⟩
                    | some p =>
                      obtain ⟨r,rest'⟩:=p
                      have hlt:=nextS_lt hn
                      have HLT:Bx (restLen wr cb=rest.length∧rest'.length<rest.length):=⟨restLen_of HI.out.cut,hlt⟩
                      have HC2:=Bx.mk (HC.out.step h0 hn)
                      have hnx:=Bx.mk (jnext_yes wr cb rest r rest' HC.out.2.1 hrl HI.out.cut hn)
                      have HI2:=Bx.mk (HI.out.next rest')
                      generalize strOfNums rest=E at *
                      clear h0 hrl hn hlt HI
                      go_wp2_with fail
                      first | (refine hnx.out.mono ?_) | (rw [enters_of Tryd.func53 (by kernel_rfl) rfl _ _];refine hnx.out.mono ?_)
                      rintro _ w10 ⟨rfl,hw10⟩
                      rw [←hw10] at HI2
                      clear hnx hw10 c0
                      have c4:=Bk.cell HI2.out.js 4 rfl
                      have hI3:=HI2.out.later ((Below.refl w10.heap.size w10).alloc (Nat.le_refl _) (.cells #[.string (strOfNums r)] 9))
                      have hown:=hI3.own
                      have hle:=hI3.bel.size
                      have hln:(strs done).length≤1000000000:=by have:=HC.out.2.2;rw [strs_length];omega
                      go_wp2_with (first
                       | (at_builtin
                          refine wpList_append_val rfl _ _ 30 rfl 9 (.string ByteArray.empty) 16 (by omega) Tryd.underlying30 (by kernel_rfl) rfl w.heap.size _ (strs done) rfl hown (.string (strOfNums r)) rfl ⟨w10.heap.size,0,none⟩ 1 rfl (cell_new _ _ _) hln hle ?_
                          intro v1 w11 hown1 hg1 _
                          obtain ⟨ra1,rc1,rfl,-⟩:=hown1.form
                          obtain ⟨hj11,hI11⟩:=hI3.app hg1 hown1
                          have f4:=Bk.frozen hj11 4
                          have c4b:=Bk.cell hj11 4 rfl
                          have HI12:=Bx.mk hI11
                          have HLT2:Bx (restLen (w11.setCell ⟨jb,4,none⟩ _) cb<restLen wr cb):=⟨by rw [restLen_of hI11.cut,HLT.out.1];exact HLT.out.2⟩
                          have hlen1:(strs done++[Value.string (strOfNums r)]).length=(strs done).length+1:=by simp
                          rw [hlen1] at HI12 HLT2
                          clear hj11 hI11 hI3 hown1 hg1 hown hle hln c4 HI2 hlen1))
                      go_roundw
                      case rel=>exact ⟨rest',_,_,rfl,rfl,HC2,HI12⟩
                      case measure=>exact HLT2.out
end
end Go.Proofs.YtajhkncolbgkbaaDoor
