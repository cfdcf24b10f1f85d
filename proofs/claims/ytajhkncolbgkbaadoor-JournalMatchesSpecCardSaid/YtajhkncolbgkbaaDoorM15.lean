/- Jnx, Jor, Prf, Jrp, Jiv, Joi: joined by program, for one claim. -/
import Derived.Test.YtajhkncolbgkbaaDoorM14
import Derived.Test.YtajhkncolbgkbaaDoorM12
set_option linter.unusedVariables false
set_option linter.unusedSimpArgs false
namespace Go.Proofs.YtajhkncolbgkbaaDoor
section
open Go.RowKit Go.Sort Go.Maps
def CutB (w:World) (cp:Nat) (l:List Int):Prop:=Bk w cp #[.string (strOfNums l)] 101
set_option maxRecDepth 100000 in
set_option maxHeartbeats 2000000 in
theorem jnext_no (w:World) (cp:Nat) (l:List Int) (hb:Byts l) (hl:l.length≤1000000) (hc:CutB w cp l) (hn:nextS l=none) :
 Calls Tryd.prog 53 #[.pointer (some ⟨cp,0,none⟩)] w fun e w'=>e = .returned (.tuple #[.string ⟨#[]⟩,.bool false])∧w'=w:=by
 have c0:=Bk.cell hc 0 rfl
 have hsz:(strOfNums l).size=l.length:=strOfNums_size l
 unfold nextS at hn
 by_cases h2:l.length<2
 · have t0:decide ((l.length:Int)<2)=true:=by simp;omega
   have t0b:decide (l.length<2)=true:=by simpa using h2
   clear hn hc hb
   generalize l.length=n at *
   generalize strOfNums l=S at *
   go_enter Tryd.func53,Tryd.ntmps53
   go_wp2_with fail
   go_ret2
   exact ⟨rfl,rfl⟩
 · rw [if_neg h2] at hn
   have t0:decide ((l.length:Int)<2)=false:=by simp;omega
   have t0b:decide (l.length<2)=false:=by simpa using h2
   have hex:(strOfNums l).extract 0 2=strOfNums (l.take 2):=by rw [str_extract];rfl
   have hnm:=Bx.mk fun W=>jnumber_any (l.take 2) (fun x hx=>hb x (List.mem_of_mem_take hx)) (by rw [List.length_take];omega) W
   have hm64:=numK_lt (l:=l.take 2) (fun x hx=>hb x (List.mem_of_mem_take hx))
   have hm65:numK (l.take 2)<65536:=by rw [List.length_take,show min 2 l.length=2 by omega] at hm64;exact hm64
   have h3:8000<numK (l.take 2)∨l.length<2+numK (l.take 2):=by
    apply Classical.byContradiction
    intro h
    rw [if_neg h] at hn
    cases hn
   have b2:(2:Int)≤(l.length:Int):=by omega
   clear hn hc hb hm64
   generalize l.length=n at *
   generalize numK (l.take 2)=m at *
   generalize strOfNums (l.take 2)=S2 at *
   generalize strOfNums l=S at *
   have e1:IntKind.i64.wrap (2+(m:Int))=((2+m:Nat):Int):=by rw [IntWalk.i64_in _ (by omega)];omega
   by_cases h8:8000<m
   · have t1:decide ((m:Int) > 8000)=true:=by simp;omega
     have t1b:decide (8000<m)=true:=by simpa using h8
     clear h3 h8 h2
     go_enter Tryd.func53,Tryd.ntmps53
     go_wp2_with fail
     refine (hnm.out _).mono ?_
     rintro _ _ ⟨rfl,rfl⟩
     go_wp2_with fail
     go_ret2
     exact ⟨rfl,rfl⟩
   · have t1:decide ((m:Int) > 8000)=false:=by simp;omega
     have t1b:decide (8000<m)=false:=by simpa using h8
     have hlt:n<2+m:=by omega
     have t2:decide ((n:Int)<((2+m:Nat):Int))=true:=by simp;omega
     have t2b:decide (n<2+m)=true:=by simpa using hlt
     generalize 2+m=m2 at *
     clear h3 h8 h2 hlt
     go_enter Tryd.func53,Tryd.ntmps53
     go_wp2_with fail
     refine (hnm.out _).mono ?_
     rintro _ _ ⟨rfl,rfl⟩
     go_wp2_with fail
     go_ret2
     exact ⟨rfl,rfl⟩
set_option maxRecDepth 100000 in
set_option maxHeartbeats 2000000 in
theorem jnext_yes (w:World) (cp:Nat) (l r rest:List Int) (hb:Byts l) (hl:l.length≤1000000) (hc:CutB w cp l) (hn:nextS l=some (r,rest)) :
 Calls Tryd.prog 53 #[.pointer (some ⟨cp,0,none⟩)] w fun e w'=>e = .returned (.tuple #[.string (strOfNums r),.bool true])∧w'=w.setCell ⟨cp,0,none⟩ (.string (strOfNums rest)):=by
 have c0:=Bk.cell hc 0 rfl
 have f0:=Bk.frozen hc 0
 have hsz:(strOfNums l).size=l.length:=strOfNums_size l
 unfold nextS at hn
 by_cases h2:l.length<2
 · rw [if_pos h2] at hn;cases hn
 rw [if_neg h2] at hn
 by_cases h3:8000<numK (l.take 2)∨l.length<2+numK (l.take 2)
 · rw [if_pos h3] at hn;cases hn
 rw [if_neg h3] at hn
 simp only [Option.some.injEq,Prod.mk.injEq] at hn
 obtain ⟨rfl,rfl⟩:=hn
 have t0:decide ((l.length:Int)<2)=false:=by simp;omega
 have t0b:decide (l.length<2)=false:=by simpa using h2
 have hex:(strOfNums l).extract 0 2=strOfNums (l.take 2):=by rw [str_extract];rfl
 have hnm:=Bx.mk fun W=>jnumber_any (l.take 2) (fun x hx=>hb x (List.mem_of_mem_take hx)) (by rw [List.length_take];omega) W
 obtain ⟨m,hm⟩ : ∃ m,m=numK (l.take 2):=⟨_,rfl⟩
 rw [←hm] at h3 hnm ⊢
 have hex2:(strOfNums l).extract 2 (2+m)=strOfNums ((l.drop 2).take m):=by rw [str_extract];congr 2;omega
 have hex3:(strOfNums l).extract (2+m) l.length=strOfNums (l.drop (2+m)):=by rw [str_extract,List.take_of_length_le (by rw [List.length_drop];omega)]
 have e1:IntKind.i64.wrap (2+(m:Int))=((2+m:Nat):Int):=by rw [IntWalk.i64_in _ (by omega)];omega
 have t1:decide ((m:Int) > 8000)=false:=by simp;omega
 have t1b:decide (8000<m)=false:=by simp;omega
 have t2:decide ((l.length:Int)<((2+m:Nat):Int))=false:=by simp;omega
 have t2b:decide (l.length<2+m)=false:=by simp;omega
 have b2:(2:Int)≤(l.length:Int):=by omega
 have b3:(2:Int)≤((2+m:Nat):Int):=by omega
 have b4:((2+m:Nat):Int)≤(l.length:Int):=by omega
 have b5:(0:Int)≤((2+m:Nat):Int):=by omega
 clear hc hb hm
 generalize strOfNums (l.take 2)=S2 at *
 generalize strOfNums ((l.drop 2).take m)=S3 at *
 generalize strOfNums (l.drop (2+m))=S4 at *
 generalize strOfNums l=S at *
 generalize l.length=n at *
 generalize 2+m=m2 at *
 clear h2 h3
 go_enter Tryd.func53,Tryd.ntmps53
 go_wp2_with fail
 refine (hnm.out _).mono ?_
 rintro _ _ ⟨rfl,rfl⟩
 go_wp2_with fail
 go_ret2
 exact ⟨rfl,rfl⟩
end
section
open Go.RowKit Go.Sort Go.Maps
section
variable {n:Nat} {rd:Nat→List Int × Int}
theorem openJ_small (h:(n - 1) / 2<1):openJ n rd = .error 1:=by unfold openJ;rw [if_pos h]
theorem openJ_read (h : ¬(n - 1) / 2<1) (h0:(rd 0).2 ≠ 0):openJ n rd = .error (rd 0).2:=by unfold openJ;rw [if_neg h,if_pos h0]
theorem openJ_bad (h : ¬(n - 1) / 2<1) (h0:(rd 0).2=0) (hb:headBad ((n - 1) / 2) (rd 0).1):openJ n rd = .error 7:=by unfold openJ;rw [if_neg h,if_neg (by simp [h0]),if_pos hb]
theorem openJ_gat (h : ¬(n - 1) / 2<1) (h0:(rd 0).2=0) (hb : ¬headBad ((n - 1) / 2) (rd 0).1) {e:Int} (hg:gatJ rd (1+hBank (rd 0).1 * ((n - 1) / 2)) (pagesFor (hUsed (rd 0).1)) = .error e):openJ n rd = .error e:=by
 unfold openJ;rw [if_neg h,if_neg (by simp [h0]),if_neg hb,hg]
theorem openJ_cut (h : ¬(n - 1) / 2<1) (h0:(rd 0).2=0) (hb : ¬headBad ((n - 1) / 2) (rd 0).1) {s:List Int} (hg:gatJ rd (1+hBank (rd 0).1 * ((n - 1) / 2)) (pagesFor (hUsed (rd 0).1)) = .ok s) (hc:cutS (s.take (hUsed (rd 0).1))=none):openJ n rd = .error 7:=by
 unfold openJ;rw [if_neg h,if_neg (by simp [h0]),if_neg hb,hg];dsimp only;rw [hc]
theorem openJ_cnt (h : ¬(n - 1) / 2<1) (h0:(rd 0).2=0) (hb : ¬headBad ((n - 1) / 2) (rd 0).1) {s:List Int} (hg:gatJ rd (1+hBank (rd 0).1 * ((n - 1) / 2)) (pagesFor (hUsed (rd 0).1)) = .ok s) {L:List (List Int)} (hc:cutS (s.take (hUsed (rd 0).1))=some L) (hl:L.length ≠ hCnt (rd 0).1):openJ n rd = .error 7:=by
 unfold openJ;rw [if_neg h,if_neg (by simp [h0]),if_neg hb,hg];dsimp only;rw [hc];dsimp only;rw [if_pos hl]
theorem openJ_ok (h : ¬(n - 1) / 2<1) (h0:(rd 0).2=0) (hb : ¬headBad ((n - 1) / 2) (rd 0).1) {s:List Int} (hg:gatJ rd (1+hBank (rd 0).1 * ((n - 1) / 2)) (pagesFor (hUsed (rd 0).1)) = .ok s) {L:List (List Int)} (hc:cutS (s.take (hUsed (rd 0).1))=some L) (hl:L.length=hCnt (rd 0).1):openJ n rd = .ok (hBank (rd 0).1,s.take (hUsed (rd 0).1),L):=by
 unfold openJ;rw [if_neg h,if_neg (by simp [h0]),if_neg hb,hg];dsimp only;rw [hc];dsimp only;rw [if_neg (by simp [hl])]
theorem gatJ_err {base k K:Nat} {e:Int} (h:gatJ rd base k = .error e) (hk:k≤K):gatJ rd base K = .error e:=by
 induction K with
 | zero => obtain rfl : k = 0 := by omega
           exact h
 | succ K ih =>
   by_cases hkK:k=K+1
   · rw [←hkK];exact h
   · have:=ih (by omega)
     simp only [gatJ,this]
theorem gatJ_fail {base k:Nat} {s:List Int} (h:gatJ rd base k = .ok s) (he:(rd (base+k)).2 ≠ 0):gatJ rd base (k+1) = .error (rd (base+k)).2:=by
 simp only [gatJ,h];rw [if_pos he]
theorem gatJ_more {base k:Nat} {s:List Int} (h:gatJ rd base k = .ok s) (he:(rd (base+k)).2=0):gatJ rd base (k+1) = .ok (s++(rd (base+k)).1):=by
 simp only [gatJ,h];rw [if_neg (by simp [he])]
end
theorem dropWhile_all {l:List UInt8} {c:UInt8}:l.dropWhile (· == c)=[] ↔ ∀ x∈l,x=c:=by
 induction l with
 | nil=>simp
 | cons a l ih =>
   rw [List.dropWhile_cons]
   by_cases h:a=c
   · simp [h,ih]
   · simp [h]
theorem trim_all {l:List UInt8} {c:UInt8}:Lib.trimB l c=[] ↔ ∀ x∈l,x=c:=by
 unfold Lib.trimB Lib.trimLeftB Lib.trimRightB
 constructor
 · intro h
   rw [dropWhile_all] at h
   have h2:l.reverse.dropWhile (· == c)=[]:=by
    cases hd:l.reverse.dropWhile (· == c) with
    | nil=>rfl
    | cons a r =>
      have h3:=h a (by rw [hd];simp)
      have h4:=List.head?_dropWhile_not (p:=(· == c)) (l:=l.reverse)
      rw [hd] at h4
      simp [h3] at h4
   rw [dropWhile_all] at h2
   exact fun x hx=>h2 x (by simpa using hx)
 · intro h
   have h2:l.reverse.dropWhile (· == c)=[]:=dropWhile_all.2 fun x hx=>h x (by simpa using hx)
   rw [h2];rfl
theorem jtrim_any (l:List Int) (hb:Byts l) (hl:l.length≤100000) : ∃ T:ByteArray,(∀ w,Calls Tryd.prog 51 #[.string (strOfNums l),.string ⟨#[0]⟩] w fun e w'=>e = .returned (.string T)∧Below w.heap.size w w')∧(T.toList.isEmpty=true ↔ ∀ x∈l,x=0):=by
 refine ⟨⟨(Lib.trimB (strOfNums l).data.toList 0).toArray⟩,fun w=>?_,?_⟩
 · refine (Tryd.strings_Trim_one (strOfNums l) 0 (by decide) w (by rw [strOfNums_size];omega)).mono fun e w' h=>⟨h.1,?_⟩
   rcases h.2 with h | h
   · rw [h];exact Below.refl _ _
   · rw [h];exact ⟨rfl,rfl,rfl,Nat.le_refl _,fun _ _=>rfl⟩
 · rw [ByteArray.toList_eq,List.isEmpty_iff,trim_all,strOfNums_data]
   constructor
   · intro h x hx
     have h1:=h _ (List.mem_map.2 ⟨x,hx,rfl⟩)
     have h2:=hb x hx
     have h3:=congrArg UInt8.toNat h1
     simp at h3
     omega
   · intro h y hy
     obtain ⟨x,hx,rfl⟩:=List.mem_map.1 hy
     rw [h x hx];rfl
def JOpen (w:World) (pp h:Nat) (r:Except Int (Nat × List Int × List (List Int))) (e:Ending) (w':World):Prop :=
 Below w.heap.size w w'∧match r with
  | .error er=>er ≠ 0∧e = .returned (.tuple #[.pointer none,.int .i64 er])
  | .ok (bank,s,L) => ∃ jb rv,e = .returned (.tuple #[.pointer (some ⟨jb,0,none⟩),.int .i64 0])∧JS w' jb pp h bank s rv false∧Ownv w' w.heap.size 9 rv (strs L)∧w.heap.size≤jb
end
section
theorem read_calm {d:Dk} (h:Calm d) {i:Nat} (hi:17+i<d.p.length) {x:List Int} (hx:(nowI d)[17+i]? = some x):readP d false (i:Int)=if goodP x then (dataP x,0) else ([],7):=by
 have hr:d.read (17+(i:Int))=(x,0):=by
  unfold Dk.read
  rw [if_neg (by rw [h.1];decide),if_neg (by unfold Dk.is;simp;omega)]
  rw [show (17+(i:Int)).toNat=17+i by omega]
  unfold nowI at hx
  rw [List.getElem?_map] at hx
  rw [hx];rfl
 unfold readP
 rw [if_neg (by decide),if_neg (by omega),hr,if_neg (by simp)]
end
section
theorem applyW_same : ∀ (ws:List (Nat × List Int)) (im:List (List Int)),(∀ w∈ws,im[w.1]? = some w.2)→applyW im ws=im
 | [],_,_=>rfl
 | w :: ws, im, h => by
   show applyW (im.set w.1 w.2) ws=im
   have e:im.set w.1 w.2=im:=by
    have h1:=h w (List.mem_cons_self ..)
    apply List.ext_getElem?
    intro j
    rw [List.getElem?_set]
    by_cases hj:w.1=j
    · subst hj
      have hl:=(List.getElem?_eq_some_iff.1 h1).1
      rw [if_pos rfl,if_pos hl,h1]
    · rw [if_neg hj]
   rw [e]
   exact applyW_same ws im fun x hx=>h x (List.mem_cons_of_mem _ hx)
theorem img_calm {n t:Nat} {im:List (List Int)} (h:PInv n t im) (ht:t≤2 ^ 30) (hn:n≤65536):imgR im=im:=by
 unfold imgR
 have hbig:=h.big
 have hlen:=h.len
 rcases h.log with ⟨_,hzero⟩ | ⟨l,ht0,hl,h1,h2,h3⟩
 · have h0:im[0]? = some (zerosP 128):=by
    rw [List.getElem?_eq_getElem (show 0<im.length by omega),hzero _ (List.getElem_mem _)]
   rw [targets_zero (getD_of h0)];rfl
 · rw [targets_full (n:=n) hlen ht0 ht hn hl h1 h2]
   refine applyW_same _ _ fun w hw=>?_
   obtain ⟨i,hi,rfl⟩:=List.mem_mapIdx.1 hw
   rw [List.length_map] at hi
   simp only [List.getElem_map]
   have hx:=List.getElem?_eq_getElem hi
   rw [h3 _ (List.getElem_mem hi),getD_of (h2 i _ hx)]
theorem replay_calm {n t:Nat} {im:List (List Int)} (h:PInv n t im) (hb : ∀ x∈im,x.length=128∧Byts x) (ht:t≤2 ^ 30) (hn:n≤65536):(qDk im).run (replayP im)=(qDk im,0):=by
 have hlen:=h.len
 have hbig:=h.big
 have hin : ∀ w∈(targetsP im).mapIdx (fun j x=>(17+x,im.getD (1+j) [])),w.1<im.length∧w.2.length=128:=fun w hw=>by
  obtain ⟨j,hj,rfl⟩:=List.mem_mapIdx.1 hw
  have h1:=(targets_facts im).2 _ (List.getElem_mem hj)
  have h2:=(targets_facts im).1
  refine ⟨by simp only;omega,?_⟩
  simp only
  rw [List.getD_eq_getElem?_getD,List.getElem?_eq_getElem (show 1+j<im.length by omega)]
  exact (hb _ (List.getElem_mem _)).1
 have e:replayP im=(((targetsP im).mapIdx fun j x=>(17+x,im.getD (1+j) [])).map fun w=>DOp.w w.1 w.2)++(if targetsP im=[] then [] else [.f]):=by
  unfold replayP
  rw [mapIdx_map]
 obtain ⟨d1,a1,b1,c1⟩:=run_writes (ops:=if targetsP im=[] then [] else [.f]) ((targetsP im).mapIdx fun j x=>(17+x,im.getD (1+j) [])) (qDk im) (calm_q im) (by rw [now_q];exact fun x hx=>(hb x hx).1) (by simpa [qDk] using hin)
 have hi:=img_calm h ht hn
 rw [now_q] at b1
 rw [e]
 by_cases hT:targetsP im=[]
 · rw [if_pos hT,hT];rfl
 · rw [c1,if_neg hT,run_flush a1,b1]
   show (qDk (imgR im)).run []=_
   rw [hi];rfl
theorem mx_fold {t:Nat} : ∀ (l:List (List Int)) (m:Nat),m≤t→(∀ x∈l,numOf x≤t)→l.foldl (fun m s=>max m (numOf s)) m≤t
 | [],m,hm,_=>hm
 | x :: l, m, hm, h => by
   rw [List.foldl_cons]
   have:=h x (List.mem_cons_self ..)
   exact mx_fold l _ (by omega) fun y hy=>h y (List.mem_cons_of_mem _ hy)
theorem mx_ge : ∀ (l:List (List Int)) (m:Nat),m≤l.foldl (fun m s=>max m (numOf s)) m ∧ ∀ x∈l,numOf x≤l.foldl (fun m s=>max m (numOf s)) m
 | [],m=>⟨Nat.le_refl _,fun x hx=>by cases hx⟩
 | x :: l, m => by
   rw [List.foldl_cons]
   have ih:=mx_ge l (max m (numOf x))
   refine ⟨by omega,fun y hy=>?_⟩
   rcases List.mem_cons.1 hy with rfl | hy
   · have:=ih.1;omega
   · exact ih.2 y hy
theorem mx_calm {n t:Nat} {im:List (List Int)} (h:PInv n t im) (ht:t≤2 ^ 30):mxP im=t:=by
 have h1:mxP im≤t:=mx_fold im 0 (Nat.zero_le _) fun x hx=>by
  have:=h.all x hx
  unfold numOf
  rw [if_pos this.1];exact this.2
 rcases h.log with ⟨h0,_⟩ | ⟨l,ht0,hl,h2,_⟩
 · omega
 · have hm:=List.mem_of_getElem? h2
   have h3:=(mx_ge im 0).2 _ hm
   have hg:=(h.all _ hm).1
   have h4:numOf (sealP t (recP (l.map (·.1))))=t:=by unfold numOf;rw [if_pos hg,seal_num (by omega)]
   rw [h4] at h3
   exact Nat.le_antisymm h1 h3
def datD (im:List (List Int)) (i:Nat):List Int:=dataP (im.getD (17+i) [])
theorem read_q {n t:Nat} {im:List (List Int)} (h:PInv n t im) {i:Nat} (hi:17+i<n):readP (qDk im) false (i:Int)=(datD im i,0):=by
 have hil:17+i<im.length:=by rw [h.len];exact hi
 have hg:=(h.all _ (List.getElem_mem hil)).1
 have hp:(qDk im).p.length=im.length:=by unfold qDk;exact List.length_map _
 have r0:=read_calm (calm_q im) (i:=i) (by rw [hp];exact hil) (by rw [now_q];exact List.getElem?_eq_getElem hil)
 rw [r0,if_pos hg]
 unfold datD
 rw [List.getD_eq_getElem?_getD,List.getElem?_eq_getElem hil];rfl
end
section
theorem datD_hit {n t:Nat} {im:List (List Int)} {L:List (Nat × List Int)} (h:PInv n t im) (hl:BatchOk n L) {x:Nat × List Int} (hx:x∈L) (T:Nat):datD (wrote T L im) x.1=x.2:=by
 unfold datD
 rw [getD_of (wrote_data h.len hl hx)]
 exact seal_data (hl.data x hx).1
theorem datD_off {n:Nat} {im:List (List Int)} {L:List (Nat × List Int)} (hl:BatchOk n L) {i:Nat} (hi : ∀ x∈L,x.1 ≠ i) (T:Nat):datD (wrote T L im) i=datD im i:=by
 unfold datD
 rw [List.getD_eq_getElem?_getD,List.getD_eq_getElem?_getD,wrote_off hl hi]
theorem datD_len {n t:Nat} {im:List (List Int)} (h:PInv n t im) {i:Nat} (hi:17+i<n):(datD im i).length=116:=by
 have hil:17+i<im.length:=by rw [h.len];exact hi
 have hg:=(h.all _ (List.getElem_mem hil)).1
 unfold datD dataP
 rw [List.getD_eq_getElem?_getD,List.getElem?_eq_getElem hil]
 simp only [Option.getD_some,List.length_take,List.length_drop]
 have:=hg.1
 omega
structure InvJ (nn h bank:Nat) (s:List Int) (L:List (List Int)) (im:List (List Int)):Prop where
 head:datD im 0=headP bank s.length L.length
 bytes : ∀ j,j<s.length→(datD im (1+bank * h+j / 116))[j % 116]? = s[j]?
 strm:s=strmP L
 short : ∀ r∈L,r.length≤8000
 fits:s.length≤h * 116
 bank1:bank≤1
 half:h=(nn - 1) / 2∧1≤h∧nn≤200
theorem gatJ_all {rd:Nat→List Int × Int} {base:Nat} : ∀ k,(∀ i,i<k→(rd (base+i)).2=0)→gatJ rd base k = .ok ((List.range k).flatMap fun i=>(rd (base+i)).1)
 | 0,_=>rfl
 | k + 1, h => by
   rw [gatJ_more (gatJ_all k fun i hi=>h i (by omega)) (h k (by omega)),List.range_succ,List.flatMap_append]
   simp
theorem flat_at {f:Nat→List Int} : ∀ (K:Nat),(∀ i,i<K→(f i).length=116)→((List.range K).flatMap f).length=116 * K ∧ ∀ j,j<116 * K→((List.range K).flatMap f)[j]? = (f (j / 116))[j % 116]?
 | 0,_=>⟨rfl,fun j hj=>by omega⟩
 | K + 1, h => by
   obtain ⟨h1,h2⟩:=flat_at K fun i hi=>h i (by omega)
   have hK:=h K (by omega)
   rw [List.range_succ,List.flatMap_append]
   have e:[K].flatMap f=f K:=by simp
   rw [e]
   refine ⟨by rw [List.length_append,h1,hK];omega,fun j hj=>?_⟩
   by_cases hjl:j<116 * K
   · rw [List.getElem?_append_left (by omega)]
     exact h2 j hjl
   · rw [List.getElem?_append_right (by omega),h1]
     have e1:j / 116=K:=by omega
     rw [e1]
     congr 1;omega
theorem strm_cnt : ∀ (L:List (List Int)),2 * L.length≤(strmP L).length
 | []=>Nat.le_refl _
 | r :: L => by
   have ih:=strm_cnt L
   have e:strmP (r::L)=recS r++strmP L:=rfl
   rw [e,List.length_append,recS_len,List.length_cons];omega
theorem InvJ.open_ {nn h bank:Nat} {s:List Int} {L:List (List Int)} {im:List (List Int)} (hI:InvJ nn h bank s L im) (hlen : ∀ i,i<nn→(datD im i).length=116):openJ nn (fun i=>(datD im i,0)) = .ok (bank,s,L):=by
 obtain ⟨hh,h1,h200⟩:=hI.half
 have hf:=hI.fits
 have hb:=hI.bank1
 have hcnt:=strm_cnt L
 rw [←hI.strm] at hcnt
 have hU:hUsed (datD im 0)=s.length:=by rw [hI.head];exact headP_used (by omega)
 have hB:hBank (datD im 0)=bank:=by rw [hI.head];exact headP_bank hb
 have hC:hCnt (datD im 0)=L.length:=by rw [hI.head];exact headP_cnt (by omega)
 have hbh:bank * h≤1 * h:=Nat.mul_le_mul_right _ hb
 have hK:pagesFor s.length≤h:=by unfold pagesFor;omega
 obtain ⟨f1,f2⟩:=flat_at (f:=fun i=>datD im (1+bank * h+i)) (pagesFor s.length) fun i hi=>hlen _ (by omega)
 have hg:gatJ (fun i=>(datD im i,(0:Int))) (1+hBank (datD im 0) * ((nn - 1) / 2)) (pagesFor (hUsed (datD im 0))) = .ok ((List.range (pagesFor s.length)).flatMap fun i=>datD im (1+bank * h+i)):=by
  rw [hU,hB,←hh]
  exact gatJ_all _ fun _ _=>rfl
 have ht:((List.range (pagesFor s.length)).flatMap fun i=>datD im (1+bank * h+i)).take s.length=s:=by
  apply List.ext_getElem?
  intro j
  rw [List.getElem?_take]
  by_cases hj:j<s.length
  · rw [if_pos hj,f2 j (by unfold pagesFor;omega)]
    exact hI.bytes j hj
  · rw [if_neg hj,List.getElem?_eq_none (by omega)]
 have hres:=openJ_ok (n:=nn) (rd:=fun i=>(datD im i,(0:Int))) (by omega) rfl (by
  rintro (hx | hx | hx)
  · change 1<hBank (datD im 0) at hx;rw [hB] at hx;omega
  · change (nn - 1) / 2 * 116<hUsed (datD im 0) at hx;rw [hU] at hx;omega
  · apply hx
    show ∀ x∈(datD im 0).drop 9,x=0
    rw [hI.head];exact headP_tail _ _ _) hg (L:=L) (by
  show cutS (List.take (hUsed (datD im 0)) _)=some L
  rw [hU,ht,hI.strm]
  exact cut_strm L hI.short) hC.symm
 rw [hres]
 show Except.ok (hBank (datD im 0),List.take (hUsed (datD im 0)) _,L)=_
 rw [hB,hU,ht]
end
section
open Go.RowKit Go.Sort Go.Maps
theorem str_full {l:List Int} (h:l ≠ []):(strOfNums l).toList.isEmpty=false:=by
 cases hb:(strOfNums l).toList.isEmpty with
 | false=>rfl
 | true =>
   rw [List.isEmpty_iff,ByteArray.toList_eq] at hb
   have h1:(strOfNums l).data.toList.length=l.length:=by rw [Array.length_toList];exact strOfNums_size l
   rw [hb] at h1
   exact absurd (List.eq_nil_of_length_eq_zero h1.symm) h
theorem str_none:(strOfNums ([]:List Int)).toList.isEmpty=true:=by rw [ByteArray.toList_eq];rfl
def CutL (s0 rest:List Int) (done:List (List Int)):Prop:=cutS s0=(cutS rest).map (done ++ ·)∧Byts rest∧done.length+rest.length≤1000000
theorem CutL.start {s:List Int} (hb:Byts s) (hl:s.length≤1000000):CutL s s []:=⟨by cases cutS s <;> rfl,hb,by simpa using hl⟩
theorem CutL.fail {s0 rest:List Int} {done:List (List Int)} (h:CutL s0 rest done) (h0:rest ≠ []) (hn:nextS rest=none):cutS s0=none:=by rw [h.1,cutS_none h0 hn];rfl
theorem CutL.step {s0 rest r rest':List Int} {done:List (List Int)} (h:CutL s0 rest done) (h0:rest ≠ []) (hn:nextS rest=some (r,rest')):CutL s0 rest' (done++[r]):=by
 refine ⟨?_,fun x hx=>h.2.1 x ?_,?_⟩
 · rw [h.1,cutS_some h0 hn]
   cases cutS rest' <;> simp
 · unfold nextS at hn
   split at hn
   · cases hn
   · split at hn
     · cases hn
     · simp only [Option.some.injEq,Prod.mk.injEq] at hn
       rw [←hn.2] at hx
       exact List.mem_of_mem_drop hx
 · have:=nextS_lt hn
   have:=h.2.2
   rw [List.length_append];simp;omega
theorem CutL.done {s0:List Int} {done:List (List Int)} (h:CutL s0 [] done):cutS s0=some done:=by rw [h.1,cutS_nil];simp
structure JoI (w:World) (jb cb pp h bank:Nat) (s0 rest:List Int) (done:List (List Int)) (rv:Value) (W:World):Prop where
 js:JS W jb pp h bank s0 rv false
 cut:CutB W cb rest
 own:Ownv W w.heap.size 9 rv (strs done)
 bel:Below w.heap.size w W
 ap:jb ≠ cb∧w.heap.size≤jb∧w.heap.size≤cb
section
variable {w W W':World} {jb cb pp h bank:Nat} {s0 rest:List Int} {done:List (List Int)} {rv:Value}
theorem JoI.later (hI:JoI w jb cb pp h bank s0 rest done rv W) (hb:Below W.heap.size W W'):JoI w jb cb pp h bank s0 rest done rv W' :=
 ⟨hI.js.later hb,Bk.later hI.cut hb,hI.own.below hb,hI.bel.trans (hb.mono hI.bel.size),hI.ap⟩
theorem JoI.next (hI:JoI w jb cb pp h bank s0 rest done rv W) (rest':List Int):JoI w jb cb pp h bank s0 rest' done rv (W.setCell ⟨cb,0,none⟩ (.string (strOfNums rest'))) :=
 ⟨Bk.chg hI.js (chg_cell W cb 0 _) hI.ap.1,by simpa [CutB] using Bk.set hI.cut 0 (.string (strOfNums rest')),hI.own.grown (Chg.toRow (chg_cell W cb 0 _)) (.inr (Lib.ownBlock_ne hI.own hI.cut (by decide))),hI.bel.setCell (p:=⟨cb,0,none⟩) hI.ap.2.2 _,hI.ap⟩
theorem JoI.app (hI:JoI w jb cb pp h bank s0 rest done rv W) {r:List Int} {v':Value} (hg:W.grownBy W' rv.ownBlock) (hown:Ownv W' w.heap.size 9 v' (strs done++[.string (strOfNums r)])) :
 JS W' jb pp h bank s0 rv false∧JoI w jb cb pp h bank s0 rest (done++[r]) v' (W'.setCell ⟨jb,4,none⟩ v'):=by
 have hj:JS W' jb pp h bank s0 rv false:=(hg.block jb (Bk.lt hI.js) fun e=>Lib.ownBlock_ne hI.own hI.js (by decide) e.symm).trans hI.js
 have hc:CutB W' cb rest:=(hg.block cb (Bk.lt hI.cut) fun e=>Lib.ownBlock_ne hI.own hI.cut (by decide) e.symm).trans hI.cut
 refine ⟨hj,by simpa [JS] using Bk.set hj 4 v',Bk.chg hc (chg_cell W' jb 4 _) fun e=>hI.ap.1 e.symm,?_,?_,hI.ap⟩
 · rw [strs_snoc]
   exact hown.grown (Chg.toRow (chg_cell W' jb 4 _)) (.inr (Lib.ownBlock_ne hown hj (by decide)))
 · exact (hI.bel.grown hg hI.bel.size fun g hg'=>(hI.own.lt g hg').1).setCell (p:=⟨jb,4,none⟩) hI.ap.2.1 _
end
end
end Go.Proofs.YtajhkncolbgkbaaDoor
