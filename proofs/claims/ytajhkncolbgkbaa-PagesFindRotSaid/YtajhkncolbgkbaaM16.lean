/- Prf, Psn: joined by program, for one claim. -/
import Derived.Test.YtajhkncolbgkbaaM15
set_option linter.unusedVariables false
set_option linter.unusedSimpArgs false
namespace Go.Proofs.Ytajhkncolbgkbaa
section
theorem logK_full {t:Nat} {im:List (List Int)} {l:List (Nat × List Int)} (ht0:1≤t) (ht:t≤2 ^ 30) (hf:l.length≤16) (h0:im[0]? = some (sealP t (recP (l.map (·.1))))):logK im=l.length:=by
 have hrl:(recP (l.map (·.1))).length=116:=rec_len (by rw [List.length_map];omega)
 have hg0:goodP (sealP t (recP (l.map (·.1)))):=seal_good ht0 ht hrl
 unfold logK
 rw [getD_of h0,if_pos hg0]
 unfold dataP
 rw [seal_data hrl]
 unfold recP
 simp only [List.cons_append,List.getD_cons_zero,List.length_map]
 omega
theorem open_rot {n t:Nat} {im:List (List Int)} (h:PInv n t im) (ht:t≤2 ^ 30) (hn:n≤65536) {p:Nat} (hp:p<n) {z:List Int} (hz : ¬goodP z) :
 ∀ j,17≤j→j<n→(imgR (im.set p z))[j]? = im[j]? ∨ (j=p∧(imgR (im.set p z))[j]? = some z):=by
 have hlen:=h.len
 have hset : ∀ j,j ≠ p→(im.set p z)[j]? = im[j]? := fun j hj=>List.getElem?_set_ne (fun e=>hj e.symm)
 have hat:(im.set p z)[p]? = some z:=List.getElem?_set_self (by omega)
 -- where there is nothing to replay
 have none_:targetsP (im.set p z)=[] → ∀ j,17≤j→j<n→(imgR (im.set p z))[j]? = im[j]? ∨ (j=p∧(imgR (im.set p z))[j]? = some z):=fun ht j _ _=>by
  have hi:imgR (im.set p z)=im.set p z:=by unfold imgR;rw [ht];rfl
  rw [hi]
  by_cases e:j=p
  · subst e;exact .inr ⟨rfl,hat⟩
  · exact .inl (hset j e)
 by_cases hp0:p=0
 · subst hp0
   exact none_ (targets_bad0 (by rw [getD_of hat];exact hz))
 · have h0:=hset 0 (fun e=>hp0 e.symm)
   rcases h.log with ⟨_,hzero⟩ | ⟨l,ht0,hl,h1,h2,h3⟩
   · refine none_ (targets_zero ?_)
     have:im[0]? = some (zerosP 128):=by
      have hk:=List.getElem?_eq_getElem (show 0<im.length by omega)
      rw [hk,hzero _ (List.getElem_mem _)]
     rw [getD_of (h0.trans this)]
   · have hf:=hl.few
     by_cases hpl:p - 1<l.length
     · refine none_ (targets_badj (i:=p - 1) ?_ ?_)
       · rw [show 1+(p - 1)=p by omega,getD_of hat];exact hz
       · rw [logK_full ht0 ht hf (h0.trans h1)];exact hpl
     · have hT:targetsP (im.set p z)=l.map (·.1):=targets_full (n:=n) (by rw [List.length_set];exact hlen) ht0 ht hn hl (h0.trans h1) fun j x hx=>by
        have hj:=(List.getElem?_eq_some_iff.1 hx).1
        rw [hset _ (by omega)]
        exact h2 j x hx
       intro j hj17 hjn
       unfold imgR
       rw [hT]
       by_cases hex : ∃ x∈l,17+x.1=j
       · obtain ⟨x,hx,rfl⟩:=hex
         left
         rw [h3 x hx]
         obtain ⟨i,hi⟩:=List.mem_iff_getElem?.1 hx
         have hil:=(List.getElem?_eq_some_iff.1 hi).1
         refine applyW_at _ _ (by rw [List.length_set,hlen];exact hjn) ?_ ?_
         · rw [List.pairwise_iff_getElem]
           intro a b ha hb hab
           simp only [List.getElem_mapIdx,List.getElem_map]
           have hs:=hl.sorted
           rw [List.pairwise_iff_getElem] at hs
           rw [List.length_mapIdx,List.length_map] at ha hb
           have:=hs a b (by rw [List.length_map];exact ha) (by rw [List.length_map];exact hb) hab
           rw [List.getElem_map,List.getElem_map] at this
           omega
         · rw [List.mem_mapIdx]
           refine ⟨i,by rw [List.length_map];exact hil,?_⟩
           rw [List.getElem_map]
           rw [List.getElem?_eq_getElem hil] at hi
           rw [Option.some.inj hi,getD_of]
           rw [hset _ (by omega)]
           exact h2 i x (by rw [List.getElem?_eq_getElem hil,Option.some.inj hi])
       · rw [applyW_off _ _ fun w hw=>by
          obtain ⟨i,hi,rfl⟩:=List.mem_mapIdx.1 hw
          simp only [List.getElem_map]
          rw [List.length_map] at hi
          intro e
          exact hex ⟨l[i],List.getElem_mem hi,e⟩]
         by_cases e:j=p
         · subst e;exact .inr ⟨rfl,hat⟩
         · exact .inl (hset j e)
theorem bad_rot {n:Nat} {im jm:List (List Int)} {p:Nat} {z:List Int} (hlen:im.length=n) (hall : ∀ x∈im,goodP x) (h : ∀ j,17≤j→j<n→jm[j]? = im[j]? ∨ (j=p∧jm[j]? = some z)) :
 ∀ k,k+17≤n→badP jm k=[]∨(badP jm k=[p - 17]∧17≤p∧p<17+k)
 | 0,_=>.inl rfl
 | k + 1, hk => by
   have ih:=bad_rot hlen hall h k (by omega)
   rw [badP_succ]
   have hj:=h (17+k) (by omega) (by omega)
   by_cases hg:goodP (jm.getD (17+k) [])
   · rw [if_pos hg,List.append_nil]
     rcases ih with ih | ⟨ih,h1,h2⟩
     · exact .inl ih
     · exact .inr ⟨ih,h1,by omega⟩
   · rw [if_neg hg]
     rcases hj with hj | ⟨hj,_⟩
     · exfalso
       apply hg
       rw [List.getD_eq_getElem?_getD,hj,List.getElem?_eq_getElem (by omega)]
       exact hall _ (List.getElem_mem _)
     · rcases ih with ih | ⟨ih,h1,h2⟩
       · right
         rw [ih]
         exact ⟨by simp;omega,by omega,by omega⟩
       · omega
theorem read_calm {d:Dk} (h:Calm d) {i:Nat} (hi:17+i<d.p.length) {x:List Int} (hx:(nowI d)[17+i]? = some x):readP d false (i:Int)=if goodP x then (dataP x,0) else ([],7):=by
 have hr:d.read (17+(i:Int))=(x,0):=by
  unfold Dk.read
  rw [if_neg (by rw [h.1];decide),if_neg (by unfold Dk.is;simp;omega)]
  rw [show (17+(i:Int)).toNat=17+i by omega]
  unfold nowI at hx
  rw [List.getElem?_map] at hx
  rw [hx];rfl
 unfold readP
 rw [if_neg (by decide),if_neg (by omega),hr,if_neg (by simp)]
theorem run_replay {im:List (List Int)} (h17:17<im.length) (hok : ∀ x∈im,x.length=128∧Byts x) (d:Dk) (hd:Calm d) (hi:nowI d=im) : ∃ d',d.run (replayP im)=(d',0)∧Calm d'∧nowI d'=imgR im:=by
 have hin : ∀ w∈(targetsP im).mapIdx (fun j x=>(17+x,im.getD (1+j) [])),w.1<im.length∧w.2.length=128:=fun w hw=>by
  obtain ⟨j,hj,rfl⟩:=List.mem_mapIdx.1 hw
  have h1:=(targets_facts im).2 _ (List.getElem_mem hj)
  have h2:=(targets_facts im).1
  refine ⟨by simp only;omega,?_⟩
  simp only
  rw [List.getD_eq_getElem?_getD,List.getElem?_eq_getElem (show 1+j<im.length by omega)]
  exact (hok _ (List.getElem_mem _)).1
 have hdl:d.p.length=im.length:=by rw [←hi];unfold nowI;rw [List.length_map]
 have e:replayP im=(((targetsP im).mapIdx fun j x=>(17+x,im.getD (1+j) [])).map fun w=>DOp.w w.1 w.2)++(if targetsP im=[] then [] else [.f]):=by
  unfold replayP
  rw [mapIdx_map]
 obtain ⟨d1,a1,b1,c1⟩:=run_writes (ops:=if targetsP im=[] then [] else [.f]) ((targetsP im).mapIdx fun j x=>(17+x,im.getD (1+j) [])) d hd (by rw [hi];exact fun x hx=>(hok x hx).1) (by rw [hdl];exact hin)
 rw [hi] at b1
 rw [e,c1]
 by_cases ht:targetsP im=[]
 · rw [if_pos ht]
   exact ⟨d1,rfl,a1,b1⟩
 · rw [if_neg ht,run_flush a1]
   exact ⟨qDk (nowI d1),rfl,calm_q _,by rw [now_q];exact b1⟩
end
section
def sa:List Int:=List.replicate 116 97
def sb:List Int:=List.replicate 116 98
def sx:List Int:=List.replicate 116 120
def sL1:List (Nat × List Int):=[(0,sa),(2,sb)]
def sL2:List (Nat × List Int):=[(0,sb)]
def sd0:Dk:=mkDk 20
def sd1:Dk:=(sd0.run (stepsP 1 sL1)).1
def sd2:Dk:=sd1.setTrip 2
def sd3:Dk:=(sd2.run (stepsP 2 sL2)).1
def sd4:Dk:=sd3.mount [0,0,0]
def sd5:Dk:=(sd4.run (replayP (nowI sd4))).1
def sd6:Dk:=(sd5.rot 19 77).1
def sd7:Dk:=(sd6.run (replayP (nowI sd6))).1
set_option maxRecDepth 100000
theorem sn0:sd0.off=false∧sd0.p.length=20∧targetsP (nowI sd0)=[]∧mxP (nowI sd0)=0∧badP (imgR (nowI sd0)) 3=[]:=by decide +kernel
theorem sn1:readP sd0 false 2=(zerosP 116,0):=by decide +kernel
theorem sn2:(sd0.run (stepsP 1 sL1)).2=0∧sd1.off=false∧sd1.p.length=20:=by decide +kernel
theorem sn3:readP sd1 false 2=(sb,0):=by decide +kernel
theorem sn4:(sd2.run (stepsP 2 sL2)).2=20∧sd2.p.length=20∧sd3.p.length=20:=by decide +kernel
theorem sn5:readP sd3 true 0=([],20):=by decide +kernel
theorem sn6:sd4.off=false∧sd4.p.length=20∧(sd4.run (replayP (nowI sd4))).2=0∧mxP (nowI sd4)=1:=by decide +kernel
theorem sn7:readP sd5 false 0=(sa,0):=by decide +kernel
theorem sn8:(sd5.rot 19 77).2=0∧readP sd6 false 2=([],7):=by decide +kernel
theorem sn9:sd6.off=false∧sd6.p.length=20∧(sd6.run (replayP (nowI sd6))).2=0∧badP (imgR (nowI sd6)) 3=[]:=by decide +kernel
theorem sn10:readP sd7 false 2=(sb,0):=by decide +kernel
theorem sa_byts:sa.length=116∧Byts sa:=⟨rfl,fun x hx=>by unfold sa at hx;rw [List.mem_replicate] at hx;omega⟩
theorem sb_byts:sb.length=116∧Byts sb:=⟨rfl,fun x hx=>by unfold sb at hx;rw [List.mem_replicate] at hx;omega⟩
theorem sx_byts:sx.length=116∧Byts sx:=⟨rfl,fun x hx=>by unfold sx at hx;rw [List.mem_replicate] at hx;omega⟩
theorem sn_b1:BatchOk 20 sL1:=by
 refine ⟨by decide,by decide,?_,?_,by decide⟩
 · intro x hx;simp only [sL1,List.mem_cons,List.not_mem_nil,or_false] at hx;rcases hx with rfl | rfl <;> decide
 · intro x hx;simp only [sL1,List.mem_cons,List.not_mem_nil,or_false] at hx
   rcases hx with rfl | rfl
   · exact sa_byts
   · exact sb_byts
theorem sn_b2:BatchOk 20 sL2:=by
 refine ⟨by decide,by decide,?_,?_,by decide⟩
 · intro x hx;simp only [sL2,List.mem_cons,List.not_mem_nil,or_false] at hx;rcases hx with rfl;decide
 · intro x hx;simp only [sL2,List.mem_cons,List.not_mem_nil,or_false] at hx
   rcases hx with rfl
   exact sb_byts
theorem sn_c0:chkV false 1 (((20:Nat):Int) - 17) []=1:=by unfold chkV;simp
theorem sn_c3:chkV false 1 (((20:Nat):Int) - 17) [(3,sa)]=1:=by
 unfold chkV
 rw [if_neg (by decide),if_neg (by simp),if_neg (by simp)]
 refine okV_no fun h=>?_
 have:=(h 0 (3,sa) (by simp) rfl).2.1
 revert this;decide
theorem sn_crc:crcV [49,50,51,52,53,54,55,56,57]=3421780262∧crcV []=0:=by decide +kernel
theorem sn_x:sealV 7 sx=sealP 7 sx∧(sealP 7 sx).length=128∧unV (sealP 7 sx) = .tuple #[.int .i64 7,.string (strOfNums sx),.bool true]:=by
 refine ⟨rfl,by decide +kernel,?_⟩
 unfold unV
 rw [show numOf (sealP 7 sx)=7 by decide +kernel,show datOf (sealP 7 sx)=sx by decide +kernel,decide_eq_true (show goodP (sealP 7 sx) by decide +kernel)]
 rfl
end
end Go.Proofs.Ytajhkncolbgkbaa
