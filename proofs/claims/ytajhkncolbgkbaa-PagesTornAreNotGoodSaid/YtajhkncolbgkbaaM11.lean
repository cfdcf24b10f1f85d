/- Pgi: joined by program, for one claim. -/
import Derived.Test.YtajhkncolbgkbaaM3
set_option linter.unusedVariables false
set_option linter.unusedSimpArgs false
section
namespace Go.Proofs.Ytajhkncolbgkbaa
def nowI (d:Dk):List (List Int):=d.p.map Pg.now
def applyW (im:List (List Int)) (ws:List (Nat × List Int)):List (List Int):=ws.foldl (fun im w=>im.set w.1 w.2) im
theorem applyW_len (ws:List (Nat × List Int)) : ∀ im:List (List Int),(applyW im ws).length=im.length:=by
 induction ws with
 | nil=>intro im;rfl
 | cons w ws ih=>intro im;show (applyW (im.set w.1 w.2) ws).length=_;rw [ih,List.length_set]
theorem applyW_app (im:List (List Int)) (a b:List (Nat × List Int)):applyW im (a++b)=applyW (applyW im a) b:=List.foldl_append ..
theorem applyW_off {i:Nat} : ∀ (ws:List (Nat × List Int)) (im:List (List Int)),(∀ w∈ws,w.1 ≠ i)→(applyW im ws)[i]? = im[i]?
 | [],_,_=>rfl
 | w :: ws, im, h => by
   show (applyW (im.set w.1 w.2) ws)[i]? = _
   rw [applyW_off ws _ fun x hx=>h x (List.mem_cons_of_mem _ hx),List.getElem?_set_ne (h w (List.mem_cons_self ..))]
theorem applyW_at {i:Nat} {s:List Int} : ∀ (ws:List (Nat × List Int)) (im:List (List Int)),i<im.length→ws.Pairwise (fun a b=>a.1 ≠ b.1)→(i,s)∈ws→(applyW im ws)[i]? = some s
 | [],_,_,_,h=>by cases h
 | w :: ws, im, hi, hp, h => by
   show (applyW (im.set w.1 w.2) ws)[i]? = _
   rw [List.pairwise_cons] at hp
   rcases List.mem_cons.1 h with e | h
   · subst e
     rw [applyW_off ws _ (fun x hx=>(hp.1 x hx).symm),List.getElem?_set_self hi]
   · exact applyW_at ws _ (by rw [List.length_set];exact hi) hp.2 h
def logW (t:Nat) (l:List (Nat × List Int)):List (Nat × List Int):=(l.mapIdx fun j x=>(1+j,sealP t x.2))++[(0,sealP t (recP (l.map (·.1))))]
def dataW (t:Nat) (l:List (Nat × List Int)):List (Nat × List Int):=l.map fun x=>(17+x.1,sealP t x.2)
structure BatchOk (n:Nat) (l:List (Nat × List Int)):Prop where
 one:1≤l.length
 few:l.length≤16
 low : ∀ x∈l,x.1+17<n
 data : ∀ x∈l,x.2.length=116∧Byts x.2
 sorted:(l.map (·.1)).Pairwise (· < ·)
theorem logW_in {t n:Nat} {l:List (Nat × List Int)} (hn:17<n) (h:BatchOk n l) : ∀ w∈logW t l,w.1<n∧w.2.length=128:=by
 intro w hw
 have hf:=h.few
 rcases List.mem_append.1 hw with hw | hw
 · obtain ⟨j,hj,rfl⟩:=List.mem_mapIdx.1 hw
   exact ⟨by simp only;omega,seal_len (h.data _ (List.getElem_mem hj)).1⟩
 · rw [List.mem_singleton] at hw;subst hw
   exact ⟨by simp only;omega,seal_len (rec_len (by rw [List.length_map];omega))⟩
def wrote (t:Nat) (l:List (Nat × List Int)) (im:List (List Int)):List (List Int):=applyW (applyW im (logW t l)) (dataW t l)
end Go.Proofs.Ytajhkncolbgkbaa
end
