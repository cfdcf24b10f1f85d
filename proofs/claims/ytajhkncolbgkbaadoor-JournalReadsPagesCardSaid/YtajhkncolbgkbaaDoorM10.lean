/- Pgi: joined by program, for one claim. -/
import Derived.Test.YtajhkncolbgkbaaDoorM1
set_option linter.unusedVariables false
set_option linter.unusedSimpArgs false
section
namespace Go.Proofs.YtajhkncolbgkbaaDoor
def qDk (im:List (List Int)):Dk:=⟨im.map fun x=>(x,none),false,-1⟩
def Calm (d:Dk):Prop:=d.off=false∧d.trip = -1
def nowI (d:Dk):List (List Int):=d.p.map Pg.now
def applyW (im:List (List Int)) (ws:List (Nat × List Int)):List (List Int):=ws.foldl (fun im w=>im.set w.1 w.2) im
theorem applyW_len (ws:List (Nat × List Int)) : ∀ im:List (List Int),(applyW im ws).length=im.length:=by
 induction ws with
 | nil=>intro im;rfl
 | cons w ws ih=>intro im;show (applyW (im.set w.1 w.2) ws).length=_;rw [ih,List.length_set]
theorem applyW_app (im:List (List Int)) (a b:List (Nat × List Int)):applyW im (a++b)=applyW (applyW im a) b:=List.foldl_append ..
theorem applyW_off {i:Nat} : ∀ (ws:List (Nat × List Int)) (im:List (List Int)),(∀ w∈ws,w.1 ≠ i)→(applyW im ws)[i]? = im[i]?
 | [],_,_=>rfl
 | w :: ws, im, h => by
   show (applyW (im.set w.1 w.2) ws)[i]? = _
   rw [applyW_off ws _ fun x hx=>h x (List.mem_cons_of_mem _ hx),List.getElem?_set_ne (h w (List.mem_cons_self ..))]
theorem applyW_at {i:Nat} {s:List Int} : ∀ (ws:List (Nat × List Int)) (im:List (List Int)),i<im.length→ws.Pairwise (fun a b=>a.1 ≠ b.1)→(i,s)∈ws→(applyW im ws)[i]? = some s
 | [],_,_,_,h=>by cases h
 | w :: ws, im, hi, hp, h => by
   show (applyW (im.set w.1 w.2) ws)[i]? = _
   rw [List.pairwise_cons] at hp
   rcases List.mem_cons.1 h with e | h
   · subst e
     rw [applyW_off ws _ (fun x hx=>(hp.1 x hx).symm),List.getElem?_set_self hi]
   · exact applyW_at ws _ (by rw [List.length_set];exact hi) hp.2 h
theorem calm_step {d:Dk} (h:Calm d):d.step=(d,true):=by
 unfold Dk.step
 rw [h.2]
 rw [if_neg (by decide),if_neg (by decide)]
theorem calm_write {d:Dk} (h:Calm d) {i:Nat} (hi:i<d.p.length) {s:List Int} (hs:s.length=128) (hok : ∀ x∈d.p,x.now.length=128) :
 (d.op (.w i s)).2=0∧Calm (d.op (.w i s)).1∧nowI (d.op (.w i s)).1=(nowI d).set i s:=by
 have e:d.op (.w i s)=({ d with p:=d.p.modify i fun x=>(x.1,some (put x.now 0 s)) },0):=by
  show d.write i 0 s=_
  unfold Dk.write
  rw [if_neg (by rw [h.1];decide),if_neg (by simp [Dk.is,hs];omega),calm_step h,if_neg (by simp)]
  rfl
 rw [e]
 refine ⟨rfl,⟨h.1,h.2⟩,?_⟩
 apply List.ext_getElem?
 intro j
 simp only [nowI,List.getElem?_map,List.getElem?_modify,List.getElem?_set]
 by_cases hj:i=j
 · subst hj
   have hn:=hok _ (List.getElem_mem hi)
   rw [List.getElem?_eq_getElem hi]
   simp only [if_true,List.length_map,if_pos hi,Option.map_some,Option.map_eq_map]
   have:put d.p[i].now 0 s=s:=by
    unfold put
    rw [List.take_zero,List.nil_append,List.drop_of_length_le (by omega),List.append_nil]
   rw [this];rfl
 · simp only [if_neg hj,Option.map_eq_map]
   cases d.p[j]? <;> rfl
theorem calm_flush {d:Dk} (h:Calm d):d.op .f=(qDk (nowI d),0):=by
 show d.flush=_
 unfold Dk.flush
 rw [if_neg (by rw [h.1];decide),calm_step h,if_neg (by simp)]
 unfold qDk nowI
 simp only [List.map_map]
 rw [show d.off=false from h.1,show d.trip = -1 from h.2]
 rfl
theorem now_q (im:List (List Int)):nowI (qDk im)=im:=by
 unfold nowI qDk
 simp only [List.map_map]
 exact List.map_id im
theorem calm_q (im:List (List Int)):Calm (qDk im):=⟨rfl,rfl⟩
theorem run_writes {ops:List DOp} : ∀ (ws:List (Nat × List Int)) (d:Dk),Calm d→(∀ x∈nowI d,x.length=128)→(∀ w∈ws,w.1<d.p.length∧w.2.length=128) →
 ∃ d',Calm d'∧nowI d'=applyW (nowI d) ws∧d.run ((ws.map fun w=>DOp.w w.1 w.2)++ops)=d'.run ops
 | [],d,h,_,_=>⟨d,h,rfl,rfl⟩
 | w :: ws, d, h, hok, hw => by
   have h1:=hw w (List.mem_cons_self ..)
   obtain ⟨e,hc,hn⟩:=calm_write h h1.1 h1.2 (fun x hx=>hok _ (List.mem_map.2 ⟨x,hx,rfl⟩))
   have hl:(d.op (.w w.1 w.2)).1.p.length=d.p.length:=by
    have:=congrArg List.length hn
    simpa [nowI] using this
   obtain ⟨d',a,b,c⟩:=run_writes ws (d.op (.w w.1 w.2)).1 hc (fun x hx=>by
    rw [hn] at hx
    rcases List.mem_or_eq_of_mem_set hx with hx | rfl
    · exact hok x hx
    · exact h1.2) (fun x hx=>by rw [hl];exact hw x (List.mem_cons_of_mem _ hx))
   refine ⟨d',a,by rw [b,hn];rfl,?_⟩
   rw [List.map_cons,List.cons_append]
   show (if (d.op (.w w.1 w.2)).2=0 then _ else _)=_
   rw [if_pos e];exact c
theorem run_flush {d:Dk} (h:Calm d) (ops:List DOp):d.run (.f::ops)=(qDk (nowI d)).run ops:=by
 show (if (d.op .f).2=0 then (d.op .f).1.run ops else d.op .f)=_
 rw [calm_flush h];rfl
def logW (t:Nat) (l:List (Nat × List Int)):List (Nat × List Int):=(l.mapIdx fun j x=>(1+j,sealP t x.2))++[(0,sealP t (recP (l.map (·.1))))]
def dataW (t:Nat) (l:List (Nat × List Int)):List (Nat × List Int):=l.map fun x=>(17+x.1,sealP t x.2)
theorem mapIdx_map {α β γ:Type} (l:List α) (f:Nat→α→β) (g:β→γ):(l.mapIdx f).map g=l.mapIdx fun i x=>g (f i x):=by
 apply List.ext_getElem
 · simp
 · intro i h1 h2;simp
theorem steps_eq (t:Nat) (l:List (Nat × List Int)):stepsP t l=((logW t l).map fun w=>DOp.w w.1 w.2)++(.f::(((dataW t l).map fun w=>DOp.w w.1 w.2)++[.f])):=by
 unfold stepsP logW dataW
 simp only [List.map_append,mapIdx_map,List.map_cons,List.map_nil,List.map_map,List.append_assoc,List.cons_append,List.nil_append,Function.comp_def]
structure BatchOk (n:Nat) (l:List (Nat × List Int)):Prop where
 one:1≤l.length
 few:l.length≤16
 low : ∀ x∈l,x.1+17<n
 data : ∀ x∈l,x.2.length=116∧Byts x.2
 sorted:(l.map (·.1)).Pairwise (· < ·)
theorem logW_in {t n:Nat} {l:List (Nat × List Int)} (hn:17<n) (h:BatchOk n l) : ∀ w∈logW t l,w.1<n∧w.2.length=128:=by
 intro w hw
 have hf:=h.few
 rcases List.mem_append.1 hw with hw | hw
 · obtain ⟨j,hj,rfl⟩:=List.mem_mapIdx.1 hw
   exact ⟨by simp only;omega,seal_len (h.data _ (List.getElem_mem hj)).1⟩
 · rw [List.mem_singleton] at hw;subst hw
   exact ⟨by simp only;omega,seal_len (rec_len (by rw [List.length_map];omega))⟩
theorem dataW_in {t n:Nat} {l:List (Nat × List Int)} (h:BatchOk n l) : ∀ w∈dataW t l,w.1<n∧w.2.length=128:=by
 intro w hw
 obtain ⟨x,hx,rfl⟩:=List.mem_map.1 hw
 exact ⟨by have:=h.low x hx;simp only;omega,seal_len (h.data x hx).1⟩
def wrote (t:Nat) (l:List (Nat × List Int)) (im:List (List Int)):List (List Int):=applyW (applyW im (logW t l)) (dataW t l)
theorem run_steps {t:Nat} {l:List (Nat × List Int)} {im:List (List Int)} (hn:17<im.length) (h:BatchOk im.length l) (hok : ∀ x∈im,x.length=128):(qDk im).run (stepsP t l)=(qDk (wrote t l im),0):=by
 rw [steps_eq]
 obtain ⟨d1,a1,b1,c1⟩:=run_writes (ops:=.f::(((dataW t l).map fun w=>DOp.w w.1 w.2)++[.f])) (logW t l) (qDk im) (calm_q im) (by rw [now_q];exact hok) (by simpa [qDk] using logW_in (t:=t) hn h)
 rw [now_q] at b1
 have hok1 : ∀ (ws:List (Nat × List Int)) (im:List (List Int)),(∀ x∈im,x.length=128)→(∀ w∈ws,w.2.length=128) → ∀ x∈applyW im ws,x.length=128:=by
  intro ws
  induction ws with
  | nil=>intro im h _ x hx;exact h x hx
  | cons w ws ih =>
    intro im h hw x hx
    refine ih (im.set w.1 w.2) (fun y hy=>?_) (fun y hy=>hw y (List.mem_cons_of_mem _ hy)) x hx
    rcases List.mem_or_eq_of_mem_set hy with hy | rfl
    · exact h y hy
    · exact hw w (List.mem_cons_self ..)
 rw [c1,run_flush a1,b1]
 obtain ⟨d2,a2,b2,c2⟩:=run_writes (ops:=[.f]) (dataW t l) (qDk (applyW im (logW t l))) (calm_q _) (by rw [now_q];exact hok1 _ _ hok fun w hw=>(logW_in (t:=t) hn h w hw).2) (by
  intro w hw
  have:=dataW_in (t:=t) h w hw
  simpa [qDk,applyW_len] using this)
 rw [now_q] at b2
 rw [c2,run_flush a2,b2]
 rfl
end Go.Proofs.YtajhkncolbgkbaaDoor
end
