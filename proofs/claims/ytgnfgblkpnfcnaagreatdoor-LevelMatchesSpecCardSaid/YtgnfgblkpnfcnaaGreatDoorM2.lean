/- Tree, Reg, Store, Store2: joined by program, for one claim. -/
import Derived.Test.YtgnfgblkpnfcnaaGreatDoorM1
import Derived.Lib.QuietBelow
import Derived.StillTail
import Derived.BigQuiet
set_option linter.unusedVariables false
set_option linter.unusedSimpArgs false
section
namespace Go.Proofs.YtgnfgblkpnfcnaaGreatDoor
namespace Oct
inductive Tr where
 | uni (c:Int)
 | brick (l:List Int)
 | node (d:Nat) (ch:Fin 8→Tr)
namespace Tr
open Classical in
noncomputable def mkInner (d:Nat) (ch:Fin 8→Tr):Tr:=if (∃ c,ch 0 = .uni c) ∧ ∀ i,ch i=ch 0 then ch 0 else .node d ch
def mkBrick (l:List Int):Tr:=if ∀ x∈l,x=l.headD 0 then .uni (l.headD 0) else .brick l
def octN (n:Nat) (p:Pt):Nat:=(p.x / 2 ^ (n+2) % 2+2 * (p.y / 2 ^ (n+2) % 2)+4 * (p.z / 2 ^ (n+2) % 2)).toNat
theorem octN_lt (n:Nat) (p:Pt):octN n p<8:=by unfold octN;omega
def oct (n:Nat) (p:Pt):Fin 8:=⟨octN n p,octN_lt n p⟩
def idx (p:Pt):Nat:=(p.x % 4+4 * (p.y % 4)+16 * (p.z % 4)).toNat
theorem idx_lt (p:Pt):idx p<64:=by unfold idx;omega
def cor (a:Pt) (n:Nat) (i:Nat):Pt:=⟨a.x+(i % 2:Nat) * 2 ^ (n+2),a.y+(i / 2 % 2:Nat) * 2 ^ (n+2),a.z+(i / 4:Nat) * 2 ^ (n+2)⟩
def cellAt (a:Pt) (k:Nat):Pt:=⟨a.x+(k % 4:Nat),a.y+(k / 4 % 4:Nat),a.z+(k / 16:Nat)⟩
def getT:Tr→Nat→Pt→Int
 | .uni c,_,_=>c
 | .brick l,_,p=>l.getD (idx p) 0
 | .node _ ch,n+1,p=>getT (ch (oct n p)) n p
 | .node _ _,0,_=>0
def cells:Tr→List Int
 | .uni c=>List.replicate 64 c
 | .brick l=>l
 | .node _ _=>[]
def kid (t:Tr) (i:Fin 8):Tr:=match t with
 | .node _ ch=>ch i
 | t=>t
noncomputable def can (f:Pt→Int):Nat→Pt→Tr
 | 0,a=>mkBrick ((List.range 64).map fun k=>f (cellAt a k))
 | n+1,a=>mkInner (n+3) fun i=>can f n (cor a n i.val)
def InC (n:Nat) (a p:Pt):Prop:=p.x / 2 ^ (n+2)=a.x / 2 ^ (n+2)∧p.y / 2 ^ (n+2)=a.y / 2 ^ (n+2)∧p.z / 2 ^ (n+2)=a.z / 2 ^ (n+2)
def Al (n:Nat) (a:Pt):Prop:=a.x % 2 ^ (n+2)=0∧a.y % 2 ^ (n+2)=0∧a.z % 2 ^ (n+2)=0
theorem zDi (a m:Int) (hm:0<m):a / (m * 2)=a / m / 2:=by rw [Int.ediv_ediv_of_nonneg (by omega)]
theorem zMY {a p m:Int} (hm:0<m) (ha:a % (m * 2)=0) (h:p / (m * 2)=a / (m * 2)):p / m=(a+p / m % 2 * m) / m∧(a+p / m % 2 * m) % m=0:=by
 rw [zDi _ _ hm,zDi _ _ hm] at h
 have h1:a % m=0:=by
  have:=Int.emod_emod_of_dvd a (⟨2,rfl⟩:m ∣ m * 2);rw [ha] at this;simpa using this.symm
 have h2:(a+p / m % 2 * m) / m=a / m+p / m % 2:=Int.add_mul_ediv_right _ _ (by omega)
 have h3:a / m % 2=0:=by
  have h4:a / m * m=a:=Int.ediv_mul_cancel (Int.dvd_of_emod_eq_zero h1);have h5:a / (m * 2) * (m * 2)=a:=Int.ediv_mul_cancel (Int.dvd_of_emod_eq_zero ha)
  have h6:a / m=a / (m * 2) * 2:=by
   have:a / m * m=(a / (m * 2) * 2) * m:=by rw [h4,Int.mul_assoc,Int.mul_comm 2 m,h5]
   exact Int.eq_of_mul_eq_mul_right (by omega) this
  omega
 refine ⟨by rw [h2];omega,?_⟩
 rw [Int.add_mul_emod_self_right];exact h1
theorem pow_succ2 (n:Nat):(2:Int) ^ (n+1+2)=2 ^ (n+2) * 2:=Int.pow_succ ..
theorem pow_pos2 (n:Nat):(0:Int)<2 ^ (n+2):=Int.pow_pos (by decide)
theorem zIb (n:Nat) (p:Pt):((octN n p % 2:Nat):Int)=p.x / 2 ^ (n+2) % 2∧((octN n p / 2 % 2:Nat):Int)=p.y / 2 ^ (n+2) % 2∧((octN n p / 4:Nat):Int)=p.z / 2 ^ (n+2) % 2:=by
 unfold octN;generalize p.x / 2 ^ (n+2)=a;generalize p.y / 2 ^ (n+2)=b;generalize p.z / 2 ^ (n+2)=c;omega
theorem inC_step {n:Nat} {a p:Pt} (ha:Al (n+1) a) (h:InC (n+1) a p):InC n (cor a n (oct n p).val) p:=by
 obtain ⟨h1,h2,h3⟩:=h;obtain ⟨a1,a2,a3⟩:=ha;rw [pow_succ2] at h1 h2 h3 a1 a2 a3;obtain ⟨o1,o2,o3⟩:=zIb n p;unfold InC cor oct;simp only [o1,o2,o3];exact ⟨(zMY (pow_pos2 n) a1 h1).1,(zMY (pow_pos2 n) a2 h2).1,(zMY (pow_pos2 n) a3 h3).1⟩
theorem al_cor {n:Nat} {a:Pt} (ha:Al (n+1) a) (i:Nat):Al n (cor a n i):=by
 obtain ⟨a1,a2,a3⟩:=ha
 have key : ∀ a b:Int,a % 2 ^ (n+1+2)=0→(a+b * 2 ^ (n+2)) % 2 ^ (n+2)=0:=by
  intro a b h;rw [pow_succ2] at h;rw [Int.add_mul_emod_self_right];have:=Int.emod_emod_of_dvd a (⟨2,rfl⟩:(2:Int) ^ (n+2) ∣ 2 ^ (n+2) * 2);rw [h] at this;simpa using this.symm
 exact ⟨key _ _ a1,key _ _ a2,key _ _ a3⟩
theorem inC_other {n:Nat} {a p:Pt} (ha:Al (n+1) a) {i:Fin 8} (h:InC n (cor a n i.val) p):i=oct n p∧InC (n+1) a p:=by
 obtain ⟨h1,h2,h3⟩:=h;obtain ⟨a1,a2,a3⟩:=ha;rw [pow_succ2] at a1 a2 a3;unfold cor at h1 h2 h3;simp only [] at h1 h2 h3
 have key : ∀ (a p b m:Int),0<m→a % (m * 2)=0→(b=0∨b=1)→p / m=(a+b * m) / m→p / m % 2=b∧p / (m * 2)=a / (m * 2):=by
  intro a p b m hm ha hb h;have h5:a / (m * 2) * (m * 2)=a:=Int.ediv_mul_cancel (Int.dvd_of_emod_eq_zero ha);have h6:a=(a / (m * 2) * 2) * m:=by rw [Int.mul_assoc,Int.mul_comm 2 m,h5]
  rw [Int.add_mul_ediv_right _ _ (by omega)] at h
  have h7:a / m=a / (m * 2) * 2:=by
   conv=>lhs;rw [h6]
   exact Int.mul_ediv_cancel _ (by omega)
  rw [zDi p m hm];omega
 have hi:=i.isLt;obtain ⟨x1,x2⟩:=key _ _ _ _ (pow_pos2 n) a1 (by omega) h1
 obtain ⟨y1,y2⟩:=key _ _ _ _ (pow_pos2 n) a2 (by omega) h2
 obtain ⟨z1,z2⟩:=key _ _ _ _ (pow_pos2 n) a3 (by omega) h3
 refine ⟨Fin.ext ?_,?_⟩
 · obtain ⟨o1,o2,o3⟩:=zIb n p
   show i.val=octN n p
   have:=octN_lt n p;omega
 · unfold InC;rw [pow_succ2];exact ⟨x2,y2,z2⟩
theorem getD_el {l:List Int} {i:Nat} (h:i<l.length):l.getD i 0=l[i]:=by simp [List.getD,h]
theorem zH6 {l:List Int} (hl:l.length=64) (n:Nat) (p:Pt):getT (mkBrick l) n p=l.getD (idx p) 0:=by
 unfold mkBrick;split
 · rename_i h;have hi:=idx_lt p;rw [getD_el (by omega)]
   exact (h _ (List.getElem_mem _)).symm
 · rfl
theorem mkInner_kid (d:Nat) (ch:Fin 8→Tr) (i:Fin 8):kid (mkInner d ch) i=ch i:=by
 unfold mkInner;split
 · rename_i h;obtain ⟨⟨c,hc⟩,h⟩:=h;rw [h i];rw [hc];rfl
 · rfl
theorem zH7 (d n:Nat) (ch:Fin 8→Tr) (p:Pt):getT (mkInner d ch) (n+1) p=getT (ch (oct n p)) n p:=by
 unfold mkInner;split
 · rename_i h;obtain ⟨⟨c,hc⟩,h⟩:=h;rw [h (oct n p),hc];rfl
 · rfl
theorem zB8 (f:Pt→Int) (a:Pt):((List.range 64).map fun k=>f (cellAt a k)).length=64:=by simp
theorem zFL {a p:Pt} (ha:Al 0 a) (h:InC 0 a p):cellAt a (idx p)=p:=by
 obtain ⟨h1,h2,h3⟩:=h;obtain ⟨a1,a2,a3⟩:=ha;have e:(2:Int) ^ (0+2)=4:=by decide
 rw [e] at h1 h2 h3 a1 a2 a3;unfold cellAt idx;cases p;simp only [Pt.mk.injEq] at *;omega
theorem inC_cell {a p:Pt} (ha:Al 0 a) {k:Nat} (hk:k<64) (h:cellAt a k=p):InC 0 a p∧idx p=k:=by
 subst h;obtain ⟨a1,a2,a3⟩:=ha;have e:(2:Int) ^ (0+2)=4:=by decide
 rw [e] at a1 a2 a3;unfold InC idx cellAt;rw [e];simp only [];omega
theorem get_can (f:Pt→Int) : ∀ (n:Nat) (a p:Pt),Al n a→InC n a p→getT (can f n a) n p=f p
 | 0, a, p, ha, h => by
   unfold can;rw [zH6 (zB8 f a)];have hi:=idx_lt p;rw [getD_el (by simpa using hi)]
   simp only [List.getElem_map,List.getElem_range];rw [zFL ha h]
 | n + 1, a, p, ha, h => by
   unfold can;rw [zH7];exact get_can f n _ p (al_cor ha _) (inC_step ha h)
def upd (f:Pt→Int) (p:Pt) (c:Int):Pt→Int:=fun q=>if q=p then c else f q
open Classical in
noncomputable def add:Tr→List Tr→List Tr
 | .node d ch,ts=>if .node d ch∈ts then ts else (List.finRange 8).foldl (fun a i=>add (ch i) a) ts++[.node d ch]
 | .uni c,ts=>if .uni c∈ts then ts else ts++[.uni c]
 | .brick l,ts=>if .brick l∈ts then ts else ts++[.brick l]
noncomputable def addK (ch:Fin 8→Tr) (k:Nat) (ts:List Tr):List Tr:=((List.finRange 8).take k).foldl (fun a i=>add (ch i) a) ts
theorem addK_zero (ch:Fin 8→Tr) (ts:List Tr):addK ch 0 ts=ts:=rfl
theorem addK_succ (ch:Fin 8→Tr) {k:Nat} (hk:k<8) (ts:List Tr):addK ch (k+1) ts=add (ch ⟨k,hk⟩) (addK ch k ts):=by
 unfold addK;rw [List.take_succ_eq_append_getElem (by simpa using hk),List.foldl_append]
 simp
theorem zAn (ch:Fin 8→Tr) (ts:List Tr):addK ch 8 ts=(List.finRange 8).foldl (fun a i=>add (ch i) a) ts:=by
 unfold addK;rw [List.take_of_length_le (by simp)]
open Classical in
theorem add_node (d:Nat) (ch:Fin 8→Tr) (ts:List Tr):add (.node d ch) ts=if .node d ch∈ts then ts else addK ch 8 ts++[.node d ch]:=by
 rw [zAn,add]
open Classical in
noncomputable def ins (t:Tr) (ts:List Tr):List Tr:=if t∈ts then ts else ts++[t]
theorem add_uni (c:Int) (ts:List Tr):add (.uni c) ts=ins (.uni c) ts:=by rw [add,ins]
theorem add_brick (l:List Int) (ts:List Tr):add (.brick l) ts=ins (.brick l) ts:=by rw [add,ins]
def Closed (ts:List Tr):Prop:=ts.Nodup ∧ ∀ d ch,Tr.node d ch∈ts → ∀ i,ch i∈ts
theorem Closed.nil:Closed []:=⟨by simp,fun d ch h=>by simp at h⟩
theorem addK_ind {P:List Tr→Prop} {ch:Fin 8→Tr} (ih : ∀ i ts,P ts→P (add (ch i) ts)) : ∀ k,k≤8 → ∀ ts,P ts→P (addK ch k ts)
 | 0,_,ts,h=>by rw [addK_zero];exact h
 | k+1,hk,ts,h=>by rw [addK_succ ch (by omega)];exact ih _ _ (addK_ind ih k (by omega) ts h)
theorem ins_of_mem {t:Tr} {ts:List Tr} (h:t∈ts):ins t ts=ts:=if_pos h
theorem ins_of_not {t:Tr} {ts:List Tr} (h:t ∉ ts):ins t ts=ts++[t]:=if_neg h
theorem ins_prefix (t:Tr) (ts:List Tr):ts <+: ins t ts:=by
 by_cases h:t∈ts
 · rw [ins_of_mem h];exact List.prefix_refl _
 · rw [ins_of_not h];exact List.prefix_append _ _
theorem zHv (t:Tr) (ts:List Tr):t∈ins t ts:=by
 by_cases h:t∈ts
 · rw [ins_of_mem h];exact h
 · rw [ins_of_not h];simp
theorem add_prefix : ∀ (t:Tr) (ts:List Tr),ts <+: add t ts:=by
 intro t
 induction t with
 | uni c=>intro ts;rw [add_uni];exact ins_prefix _ _
 | brick l=>intro ts;rw [add_brick];exact ins_prefix _ _
 | node d ch ih =>
   intro ts;rw [add_node];split
   · exact List.prefix_refl _
   · exact (addK_ind (P:=fun a=>ts <+: a) (fun i a h=>h.trans (ih i a)) 8 (Nat.le_refl _) ts (List.prefix_refl _)).trans (List.prefix_append _ _)
theorem addK_prefix (ch:Fin 8→Tr) (k:Nat) (hk:k≤8) (ts:List Tr):ts <+: addK ch k ts :=
 addK_ind (P:=fun a=>ts <+: a) (fun _i a h=>h.trans (add_prefix _ a)) k hk ts (List.prefix_refl _)
theorem mem_add (t:Tr) (ts:List Tr):t∈add t ts:=by
 cases t with
 | uni c=>rw [add_uni];exact zHv _ _
 | brick l=>rw [add_brick];exact zHv _ _
 | node d ch =>
   rw [add_node];split
   · assumption
   · simp
theorem add_same : ∀ (t:Tr) (ts:List Tr),t∈ts→add t ts=ts:=by
 intro t ts h;cases t with
 | uni c=>rw [add_uni,ins_of_mem h]
 | brick l=>rw [add_brick,ins_of_mem h]
 | node d ch=>rw [add_node,if_pos h]
theorem addK_mem (ch:Fin 8→Tr) (ts:List Tr) : ∀ k,k≤8 → ∀ i:Fin 8,i.val<k→ch i∈addK ch k ts
 | 0,_,i,h=>by omega
 | k + 1, hk, i, h => by
   rw [addK_succ ch (by omega)]
   by_cases e:i.val=k
   · rw [show i=⟨k,by omega⟩ from Fin.ext e]
     exact mem_add _ _
   · exact (add_prefix _ _).subset (addK_mem ch ts k (by omega) i (by omega))
def sz:Tr→Nat
 | .uni _=>1
 | .brick _=>1
 | .node _ ch=>1+(List.ofFn fun i=>sz (ch i)).sum
theorem le_sum {l:List Nat} {x:Nat} (h:x∈l):x≤l.sum:=by
 induction l with
 | nil=>simp at h
 | cons y l ih =>
   simp only [List.sum_cons];rcases List.mem_cons.1 h with rfl | h
   · omega
   · have:=ih h;omega
theorem sz_kid (d:Nat) (ch:Fin 8→Tr) (i:Fin 8):sz (ch i)<sz (.node d ch):=by
 have:sz (ch i)≤(List.ofFn fun i=>sz (ch i)).sum:=le_sum (List.mem_ofFn.2 ⟨i,rfl⟩);simp only [sz];omega
theorem of_mem_ins {x t:Tr} {ts:List Tr} (h:x∈ins t ts):x∈ts∨x=t:=by
 by_cases h':t∈ts
 · rw [ins_of_mem h'] at h;exact .inl h
 · rw [ins_of_not h'] at h;simpa using h
theorem zIi : ∀ (t:Tr) (ts:List Tr) (x:Tr),x∈add t ts→x∈ts∨x=t∨sz x<sz t:=by
 intro t
 induction t with
 | uni c=>intro ts x h;rw [add_uni] at h;rcases of_mem_ins h with h | h;exact .inl h;exact .inr (.inl h)
 | brick l=>intro ts x h;rw [add_brick] at h;rcases of_mem_ins h with h | h;exact .inl h;exact .inr (.inl h)
 | node d ch ih =>
   intro ts x h;rw [add_node] at h;split at h
   · exact .inl h
   · rcases List.mem_append.1 h with h | h
     · have:=addK_ind (P:=fun a => ∀ x∈a,x∈ts∨sz x<sz (.node d ch)) (fun i a ha x hx=>by
        rcases ih i a x hx with h | rfl | h
        · exact ha x h
        · exact .inr (sz_kid d ch i)
        · exact .inr (Nat.lt_trans h (sz_kid d ch i))) 8 (Nat.le_refl _) ts (fun x hx=>.inl hx) x h
       rcases this with h | h
       · exact .inl h
       · exact .inr (.inr h)
     · simp at h;exact .inr (.inl h)
theorem zIZ {d:Nat} {ch:Fin 8→Tr} {ts:List Tr} (h : .node d ch ∉ ts) (k:Nat) (hk:k≤8) : .node d ch ∉ addK ch k ts:=by
 have:=addK_ind (P:=fun a=>Tr.node d ch ∉ a) (ch:=ch) (fun i a ha hx=>by
  rcases zIi _ _ _ hx with h | h | h
  · exact ha h
  · have:=sz_kid d ch i;rw [←h] at this;omega
  · have:=sz_kid d ch i;omega) k hk ts h
 exact this
theorem Closed.ins {t:Tr} {ts:List Tr} (h:Closed ts) (hk : ∀ d ch,t = .node d ch → ∀ i,ch i∈ts):Closed (ins t ts):=by
 by_cases hm:t∈ts
 · rw [ins_of_mem hm];exact h
 · rw [ins_of_not hm];refine ⟨?_,fun d ch hc i=>?_⟩
   · rw [List.nodup_append];exact ⟨h.1,by simp,fun a ha b hb=>by simp at hb;subst hb;rintro rfl;exact hm ha⟩
   · rcases List.mem_append.1 hc with hc | hc
     · exact List.mem_append.2 (.inl (h.2 d ch hc i))
     · simp at hc;exact List.mem_append.2 (.inl (hk d ch hc.symm i))
theorem node_add {d:Nat} {ch:Fin 8→Tr} {ts:List Tr} (h:Closed ts):add (.node d ch) ts=Tr.ins (.node d ch) (addK ch 8 ts):=by
 rw [add_node];split
 · rename_i hm;have:addK ch 8 ts=ts:=addK_ind (P:=fun a=>a=ts) (fun i a ha=>by subst ha;exact add_same _ _ (h.2 d ch hm i)) 8 (Nat.le_refl _) ts rfl
   rw [this,ins_of_mem hm]
 · rename_i hm;rw [ins_of_not (zIZ hm 8 (Nat.le_refl _))]
theorem Closed.add : ∀ (t:Tr) {ts:List Tr},Closed ts→Closed (add t ts):=by
 intro t
 induction t with
 | uni c=>intro ts h;rw [add_uni];exact h.ins (fun d ch e=>by cases e)
 | brick l=>intro ts h;rw [add_brick];exact h.ins (fun d ch e=>by cases e)
 | node d ch ih =>
   intro ts h;rw [node_add h]
   exact (addK_ind (P:=Closed) (fun i a ha=>ih i ha) 8 (Nat.le_refl _) ts h).ins (fun d' ch' e i=>by
    injection e with e1 e2;subst e2;exact addK_mem _ ts 8 (Nat.le_refl _) i i.isLt)
theorem Closed.addK {ch:Fin 8→Tr} {ts:List Tr} (h:Closed ts) (k:Nat) (hk:k≤8):Closed (addK ch k ts):=addK_ind (P:=Closed) (fun _i _a ha=>Closed.add _ ha) k hk ts h
open Classical in
theorem inner_add {d:Nat} {ch:Fin 8→Tr} {ts:List Tr} (h:Closed ts) :
 add (mkInner d ch) ts=if mkInner d ch=ch 0∧(∃ c,ch 0 = .uni c) then addK ch 8 ts else Tr.ins (.node d ch) (addK ch 8 ts):=by
 unfold mkInner;split
 · rename_i hc;obtain ⟨⟨c,hc⟩,hall⟩:=hc;rw [if_pos ⟨rfl,c,hc⟩]
   have : ∀ k,k≤7→Tr.addK ch (k+1) ts=Tr.add (ch 0) ts:=by
    intro k
    induction k with
    | zero=>intro _;rw [addK_succ ch (by omega),addK_zero];rfl
    | succ k ih =>
      intro hk;rw [addK_succ ch (by omega),ih (by omega),hall ⟨k+1,by omega⟩]
      exact add_same _ _ (mem_add _ _)
   exact (this 7 (Nat.le_refl _)).symm
 · rename_i hc;rw [if_neg,node_add h];rintro ⟨e1,c,e2⟩;rw [e2] at e1;cases e1
def Fits (most:Int) (ts ts':List Tr):Prop:=ts'=ts∨(ts'.length:Int)≤most
theorem fits_trans {most:Int} {a b c:List Tr} (h1:a <+: b) (h2:b <+: c) (h:Fits most a b) (h':Fits most b c):Fits most a c:=by
 rcases h' with rfl | h'
 · exact h
 · exact .inr h'
theorem not_fits_mono {most:Int} {a b c:List Tr} (h1:a <+: b) (h2:b <+: c) (h : ¬Fits most a b) : ¬Fits most a c:=by
 intro h';apply h;rcases h' with rfl | h'
 · exact .inl (List.IsPrefix.eq_of_length_le h1 h2.length_le).symm
 · have:=h2.length_le;exact .inr (by omega)
theorem not_fits_later {most:Int} {a b c:List Tr} (h1:a <+: b) (h2:b <+: c) (h : ¬Fits most b c) : ¬Fits most a c:=by
 intro h';apply h;rcases h' with rfl | h'
 · exact .inl (List.IsPrefix.eq_of_length_le h2 h1.length_le).symm
 · exact .inr h'
def enc:Tr→List Int
 | .uni c=>[117,c]
 | .brick l=>98::l
 | .node d ch=>110::(d:Int)::(List.ofFn fun i=>enc (ch i)).flatten
def WF:Tr→Prop
 | .uni c=>0≤c∧c≤255
 | .brick l=>l.length=64 ∧ ∀ x∈l,0≤x∧x≤255
 | .node d ch=>d≤255 ∧ ∀ i,WF (ch i)
theorem zEN {a b:Fin 8→Tr} : ∀ (n k:Nat) (_hn:n+k=8),(∀ i,∀ t' r r',enc (a i)++r=enc t'++r'→WF t'→a i=t'∧r=r')→(∀ i,WF (b i)) →
 ∀ r r',((List.ofFn fun i=>enc (a i)).drop k).flatten++r=((List.ofFn fun i=>enc (b i)).drop k).flatten++r'→(∀ i:Fin 8,k≤i.val→a i=b i)∧r=r'
 | 0, k, hn, _, _, r, r', h => by
   rw [List.drop_eq_nil_of_le (by simp;omega),List.drop_eq_nil_of_le (by simp;omega)] at h
   exact ⟨fun i hi=>by omega,by simpa using h⟩
 | n + 1, k, hn, ha, hb, r, r', h => by
   have hk:k<8:=by omega
   rw [List.drop_eq_getElem_cons (l:=List.ofFn fun i=>enc (a i)) (i:=k) (by simpa using hk),List.drop_eq_getElem_cons (l:=List.ofFn fun i=>enc (b i)) (i:=k) (by simpa using hk)] at h
   simp only [List.getElem_ofFn,List.flatten_cons,List.append_assoc] at h;obtain ⟨h1,h2⟩:=ha ⟨k,hk⟩ _ _ _ h (hb ⟨k,hk⟩);obtain ⟨h3,h4⟩:=zEN n (k+1) (by omega) ha hb r r' h2
   refine ⟨fun i hi=>?_,h4⟩;by_cases e:k=i.val
   · obtain rfl:i=⟨k,hk⟩:=Fin.ext e.symm;exact h1
   · exact h3 i (by omega)
theorem zDx : ∀ (t t':Tr) (r r':List Int),WF t→WF t'→enc t++r=enc t'++r'→t=t'∧r=r':=by
 intro t
 induction t with
 | uni c =>
   intro t' r r' h h' e;cases t' with
   | uni c'=>simp [enc] at e;simp [e]
   | brick l=>simp [enc] at e
   | node d ch=>simp [enc] at e
 | brick l =>
   intro t' r r' h h' e;cases t' with
   | uni c'=>simp [enc] at e
   | brick l' =>
     simp [enc] at e;have:=List.append_inj e (by rw [h.1,h'.1])
     simp [this]
   | node d ch=>simp [enc] at e
 | node d ch ih =>
   intro t' r r' h h' e;cases t' with
   | uni c'=>simp [enc] at e
   | brick l'=>simp [enc] at e
   | node d' ch' =>
     simp only [enc,List.cons_append,List.cons.injEq,true_and] at e;obtain ⟨e1,e2⟩:=e;obtain ⟨h1,h2⟩:=zEN 8 0 rfl (fun i t' r r' e hw=>ih i t' r r' (h.2 i) hw e) h'.2 r r' (by simpa using e2)
     obtain rfl:d=d':=by omega
     obtain rfl:ch=ch':=funext fun i=>h1 i (Nat.zero_le _);exact ⟨rfl,h2⟩
theorem enc_eq {t t':Tr} (h:WF t) (h':WF t'):enc t=enc t' ↔ t=t' :=
 ⟨fun e=>(zDx t t' [] [] h h' (by simpa using e)).1,fun e=>by rw [e]⟩
end Tr
end Oct
end Go.Proofs.YtgnfgblkpnfcnaaGreatDoor
namespace Go.Proofs.YtgnfgblkpnfcnaaGreatDoor
open Go.Sort Go.RowKit
def zBV (md:Region.Mode) (l:List Oper) (n:Nat):Bool :=
 (List.range n).all fun j=>match l[j]? with
  | some o=>(o.after.all fun e => !Region.binds md e || decide (e.on<j)) && (match o.guard with | some g=>decide (g.1<j) | none=>true)
  | none=>false
def zM9 (md:Region.Mode) (l:List Oper) (n:Nat):Bool :=
 ((List.range n).all fun i=>Region.waitsFor md l.toArray n i) && (List.range l.length).all fun t=>decide (t≤n) || Region.waitsFor md l.toArray t (t - 1)
def zE4 (l:List Oper) (n:Nat):Bool :=
 decide (n<l.length) && zBV .any l n && zM9 .any l n && Region.lexB .any (l.take n).toArray && Region.seqB .any l.toArray (l.length - n) n (Array.replicate n true++Array.replicate (l.length - n) false)
section
variable {P:Program} {md:Region.Mode} {l:List Oper} {n:Nat} {C:World→Prop}
theorem zNC {j:Nat} (hj:j<n):(l.take n).toArray[j]? = l.toArray[j]? := by simp [hj]
theorem zBJ {s:Array Bool} (hs:s.size=n) {g j:Nat} (hj:j<n) (d:Bool):(s++Array.replicate g false).getD j d=s.getD j d:=by
 have h1:j<s.size:=by omega
 simp [Array.getD_eq_getD_getElem?,Array.getElem?_append,h1]
theorem zBL {s:Array Bool} (hs:s.size=n) {g j:Nat} (hj:n≤j):(s++Array.replicate g false).getD j false=false:=by
 have h1 : ¬j<s.size:=by omega
 simp only [Array.getD_eq_getD_getElem?,Array.getElem?_append,h1,if_false,Array.getElem?_replicate];split <;> rfl
theorem zBW {j:Nat} {o:Oper} (hb:zBV md l n=true) (hj:j<n) (ho:l.toArray[j]? = some o) :
 (∀ e∈o.after,Region.binds md e=true→e.on<j) ∧ ∀ g,o.guard=some g→g.1<j:=by
 have h:=List.all_eq_true.1 hb j (List.mem_range.2 hj);have ho':l[j]? = some o:=by simpa using ho
 simp only [ho',Bool.and_eq_true,Array.all_eq_true'] at h;refine ⟨fun e he hbi=>?_,fun g hg=>?_⟩
 · have:=h.1 e he;simpa [hbi] using this
 · have:=h.2;rw [hg] at this;simpa using this
theorem zKJ {s:Array Bool} (hs:s.size=n) {g i:Nat} (hi:i<n) (hb:zBV md l n=true) (h:i∈Region.ready md l.toArray (s++Array.replicate g false)):i∈Region.ready md (l.take n).toArray s:=by
 obtain ⟨h1,o,ho,h2⟩:=mem_ready.1 h;rw [zBJ hs hi] at h1;refine mem_ready.2 ⟨h1,o,by rw [zNC hi];exact ho,fun e he hbi=>?_⟩
 have h3:=(zBW hb hi ho).1 e he hbi;have:=h2 e he hbi;rwa [zBJ hs (by omega)] at this
theorem zKK {s:Array Bool} (hs:s.size=n) {g i k:Nat} (hk:k<n) (hun:s.getD k false=false) (ht:zM9 md l n=true) (h:i∈Region.ready md l.toArray (s++Array.replicate g false)):i<n:=by
 obtain ⟨h1,o,ho,h2⟩:=mem_ready.1 h;rcases Nat.lt_or_ge i n with hlt | hge
 · exact hlt
 · exfalso;have hil:i<l.length:=by have:=(Array.getElem?_eq_some_iff.1 ho).1;simpa using this
   simp only [zM9,Bool.and_eq_true] at ht;by_cases hin:i=n
   · subst hin;have h3:=List.all_eq_true.1 ht.1 k (List.mem_range.2 hk);obtain ⟨o',ho',e,he,hbi,hon⟩:=Region.waitsFor_spec h3;obtain rfl:o'=o:=Option.some.inj (ho'.symm.trans ho);have:=h2 e he hbi;rw [hon,zBJ hs hk,hun] at this;cases this
   · have h3:=List.all_eq_true.1 ht.2 i (List.mem_range.2 hil);simp only [Bool.or_eq_true,decide_eq_true_eq] at h3;rcases h3 with h3 | h3
     · omega
     · obtain ⟨o',ho',e,he,hbi,hon⟩:=Region.waitsFor_spec h3;obtain rfl:o'=o:=Option.some.inj (ho'.symm.trans ho);have:=h2 e he hbi;rw [hon,zBL hs (by omega)] at this
       cases this
theorem zKN {s:Array Bool} (hs:s.size=n) (hn:n≤l.length) {g:Nat} (hb:zBV md l n=true) : ∀ (d k:Nat),k<d→k<n→s.getD k false=false → ∃ i,i∈Region.ready md l.toArray (s++Array.replicate g false)
 | 0,_,h,_,_=>by omega
 | d + 1, k, hd, hk, hun => by
   obtain ⟨o,ho⟩ : ∃ o,l.toArray[k]? = some o:=⟨_,Array.getElem?_eq_getElem (by simp;omega)⟩
   by_cases hall : ∀ e∈o.after,Region.binds md e=true→s.getD e.on false=true
   · refine ⟨k,mem_ready.2 ⟨?_,o,ho,fun e he hbi=>?_⟩⟩
     · rw [zBJ hs hk];exact getD_in (by omega) hun
     · have:=(zBW hb hk ho).1 e he hbi;rw [zBJ hs (by omega)];exact hall e he hbi
   · have ⟨e,he,hbi,hne⟩ : ∃ e,e∈o.after∧Region.binds md e=true∧s.getD e.on false=false:=by
      refine Classical.byContradiction fun hno=>hall fun e he hbi=>?_;cases hx:s.getD e.on false with
      | true=>rfl
      | false=>exact absurd ⟨e,he,hbi,hx⟩ hno
     have:=(zBW hb hk ho).1 e he hbi;exact zKN hs hn hb d e.on (by omega) (by omega) hne
theorem zN3 {j:Nat} {o:Oper} {tmps:Array Value} (hb:zBV md l n=true) (hj:j<n) (ho:l.toArray[j]? = some o) :
 Region.wanted o (yielded (l.take n).toArray tmps)=Region.wanted o (yielded l.toArray tmps):=by
 have hg:=(zBW hb hj ho).2;unfold Region.wanted;cases hgd:o.guard with
 | none=>rfl
 | some g =>
   have:=hg g hgd;have hy:yielded (l.take n).toArray tmps g.1=yielded l.toArray tmps g.1:=by unfold yielded;rw [zNC (by omega)]
   obtain ⟨g1,g2⟩:=g;simp only at hy ⊢;rw [hy]
def unl (s:Array Bool):Nat:=s.toList.count false
theorem zNo {s:Array Bool} {i:Nat} (hi:i<s.size) (h:s.getD i true=false):unl (s.setIfInBounds i true)+1=unl s:=by
 unfold unl;have hx:s[i]=false:=by simpa [hi] using h
 have hmem:false∈s.toList:=by rw [←hx];exact Array.getElem_mem_toList hi
 have hpos:=List.count_pos_iff.2 hmem;rw [Array.toList_setIfInBounds,List.count_set (by simpa using hi),Array.getElem_toList,hx]
 simp only [beq_self_eq_true,if_true];rw [if_neg (by decide)]
 omega
theorem zNp {s:Array Bool} (h:unl s=0):s=Array.replicate s.size true:=by
 apply Array.ext
 · simp
 · intro i h1 h2;simp only [Array.getElem_replicate];cases hx:s[i] with
   | true=>rfl
   | false =>
     have:false∈s.toList:=by rw [←hx];exact Array.getElem_mem_toList h1
     have:=List.count_pos_iff.2 this;unfold unl at h;omega
theorem zNn {s:Array Bool} (h:0<unl s) : ∃ k,k<s.size∧s.getD k false=false:=by
 have:=List.count_pos_iff.1 h;obtain ⟨k,hk,hx⟩:=List.getElem_of_mem this;refine ⟨k,by simpa using hk,?_⟩
 have hk':k<s.size:=by simpa using hk
 have:s[k]=false:=by simpa using hx
 simp [hk',this]
theorem zBK {s:Array Bool} {g i:Nat} (hi:i<s.size):(s++Array.replicate g false).setIfInBounds i true=s.setIfInBounds i true++Array.replicate g false:=by
 apply Array.ext_getElem?;intro j;simp only [Array.getElem?_setIfInBounds,Array.getElem?_append,Array.size_setIfInBounds,Array.size_append,Array.size_replicate];by_cases e:i=j
 · subst e;simp [hi];omega
 · simp [e]
theorem zOE {Qa:Act→Prop} {Q:Exit→Act→World→Prop} {g:Nat} (hn:n≤l.length) (hb:zBV md l n=true) (ht:zM9 md l n=true)
 (hend : ∀ a w,C w→Qa a→wpAny P md l.toArray Q g (Array.replicate n true++Array.replicate g false) a w) :
 ∀ (f : Nat) (s : Array Bool) (a : Act) (w : World), s.size = n → unl s = f → C w → wpAnyQ P md (l.take n).toArray C Qa f s a →
   wpAny P md l.toArray Q (f+g) (s++Array.replicate g false) a w
 | 0, s, a, w, hs, hu, hw, h => by
   rw [Nat.zero_add,zNp hu,hs];exact hend a w hw h.2
 | f + 1, s, a, w, hs, hu, hw, h => by
   obtain ⟨k,hk,hun⟩:=zNn (s:=s) (by omega)
   rw [show f+1+g=(f+g)+1 by omega]
   refine ⟨fun h0=>?_,fun i hi=>?_⟩
   · obtain ⟨i,hi⟩:=zKN (g:=g) hs hn hb (k+1) k (by omega) (by omega) hun
     rw [h0] at hi;cases hi
   · have hin:=zKK hs (by omega:k<n) hun ht hi
     have hr:=zKJ hs hin hb hi;have hq:=h.2 i hr;obtain ⟨hiu,o,ho,_⟩:=mem_ready.1 hr;have ho':l.toArray[i]? = some o:=by rw [←zNC hin];exact ho
     have step : ∀ a' w',C w'→wpAnyQ P md (l.take n).toArray C Qa f (s.setIfInBounds i true) a'→wpAny P md l.toArray Q (f+g) ((s++Array.replicate g false).setIfInBounds i true) a' w':=by
      intro a' w' hw' h';rw [zBK (by omega)]
      refine zOE hn hb ht hend f _ a' w' (by simpa using hs) ?_ hw' h'
      have:=zNo (s:=s) (by omega) hiu
      omega
     have hq':qOp P l.toArray C i (wpAnyQ P md (l.take n).toArray C Qa f (s.setIfInBounds i true)) a:=by
      unfold qOp at hq ⊢;simp only [ho] at hq;simp only [ho'];rwa [zN3 hb hin ho'] at hq
     exact wpOp_of_qOp hw step hq'
theorem zOS {id:Nat} {Q:Exit→Act→World→Prop} {a:Act} {w:World} (n:Nat) (hm:P.follows .mixedOrders=true) (hB:zE4 l n=true) (hC:C { w with drawn:=w.drawn+1 })
 (h:wpQuiet P (l.take n).toArray C (fun a' => ∀ w',C w'→wpList P l.toArray Q (l.drop n) a' w') (l.take n) a):(Code.region id l.toArray true).wp P Q a w:=by
 simp only [zE4,Bool.and_eq_true,decide_eq_true_eq] at hB;obtain ⟨⟨⟨⟨hn,hb⟩,ht⟩,hlex⟩,hseq⟩:=hB;simp only [Region.lexB,Bool.and_eq_true] at hlex;refine wp_region_any hm ?_;have hsz:(l.take n).toArray.size=n:=by simp;omega
 have hq:=wpAnyQ_lex (P:=P) (C:=C) (md:=.any) hlex.1 (l.take n) 0 (Array.replicate n false) a (by simp) (by have:=hlex.2;rw [hsz] at this;simpa [show (l.take n).length=n by simp;omega] using this) h
 rw [show (l.take n).length=n by simp;omega] at hq
 have:=zOE (g:=l.length - n) (Q:=Q) (md:=.any) (by omega) hb ht (fun a w hw hQa=>by
  have:=wpAny_of_seq (P:=P) (md:=.any) (ops:=l.toArray) (Q':=Q) (l.drop n) n (Array.replicate n true++Array.replicate (l.length - n) false) a w (fun j=>by simp [List.getElem?_drop]) (by simpa using hseq) (hQa w hw)
  simpa using this) n (Array.replicate n false) a _ (by simp) (by simp [unl]) hC hq
 have e:Array.replicate n false++Array.replicate (l.length - n) false=Array.replicate l.toArray.size false:=by
  rw [Array.replicate_append_replicate];congr 1;simp;omega
 rw [e,show n+(l.length - n)=l.toArray.size by simp;omega] at this
 exact this
theorem zAM {id:Nat} {Q:Exit→Act→World→Prop} {a:Act} {w:World} (n:Nat) (hm:P.follows .mixedOrders=true) (hB:zE4 l n=true)
 (h:wpQuiet P (l.take n).toArray (fun w' => ∃ p:Regrown,w'=grow (redrawn w p.d) p.os) (fun a' => ∀ w',(∃ p:Regrown,w'=grow (redrawn w p.d) p.os)→wpList P l.toArray Q (l.drop n) a' w') (l.take n) a) :
 (Code.region id l.toArray true).wp P Q a w :=
 zOS (C:=fun w' => ∃ p:Regrown,w'=grow (redrawn w p.d) p.os) n hm hB ⟨⟨w.drawn+1,#[]⟩,by rw [grow_empty];rfl⟩ h
end
end Go.Proofs.YtgnfgblkpnfcnaaGreatDoor
namespace Go.Proofs.YtgnfgblkpnfcnaaGreatDoor
open Go.RowKit Go.Sort Go.Maps
open Oct
open Classical in
noncomputable def idT (ts:List Tr) (t:Tr):Nat:=ts.idxOf t
theorem zFD {ts:List Tr} {t:Tr} (h:t∈ts):idT ts t<ts.length:=by
 classical
 unfold idT;exact List.idxOf_lt_length_of_mem h
theorem zFC {ts:List Tr} {t:Tr} (h:t∈ts):ts[idT ts t]? = some t:=by
 classical
 have hl:ts.idxOf t<ts.length:=List.idxOf_lt_length_of_mem h;have e:ts[ts.idxOf t]? = some t:=by rw [List.getElem?_eq_getElem hl,List.getElem_idxOf hl]
 exact e
theorem zU {ts:List Tr} {t t':Tr} (h:t∈ts) (h':t'∈ts) (e:idT ts t=idT ts t'):t=t':=by
 have h1:=zFC h;rw [e,zFC h'] at h1;exact (Option.some.inj h1).symm
theorem zV {ts ts':List Tr} (hp:ts <+: ts') {t:Tr} (h:t∈ts):idT ts' t=idT ts t:=by
 classical
 obtain ⟨r,rfl⟩:=hp;unfold idT;rw [List.idxOf_append,if_pos h]
theorem zFE {ts:List Tr} {t:Tr} (h:t ∉ ts):idT (ts++[t]) t=ts.length:=by
 classical
 unfold idT;rw [List.idxOf_append,if_neg h];simp
noncomputable def zh (ts:List Tr):Tr→Value
 | .uni c=>zII 1 c ByteArray.empty 0 0 0 0 0 0 0 0 0
 | .brick l=>zII 2 0 (strOfNums l) 2 0 0 0 0 0 0 0 0
 | .node d ch=>zII 3 0 ByteArray.empty d (idT ts (ch 0)) (idT ts (ch 1)) (idT ts (ch 2)) (idT ts (ch 3)) (idT ts (ch 4)) (idT ts (ch 5)) (idT ts (ch 6)) (idT ts (ch 7))
def Leans (ts:List Tr) (t:Tr):Prop := ∀ d ch,t = .node d ch → ∀ i,ch i∈ts
theorem zi {ts ts':List Tr} (hp:ts <+: ts') {t:Tr} (h:Leans ts t):zh ts' t=zh ts t:=by
 cases t with
 | uni c=>rfl
 | brick l=>rfl
 | node d ch =>
   have e : ∀ i,idT ts' (ch i)=idT ts (ch i):=fun i=>zV hp (h d ch rfl i);unfold zh;simp only [e]
theorem fin8 {P:Fin 8→Prop} (h0:P 0) (h1:P 1) (h2:P 2) (h3:P 3) (h4:P 4) (h5:P 5) (h6:P 6) (h7:P 7) : ∀ i,P i:=by
 intro i
 match i with
 | 0=>exact h0
 | 1=>exact h1
 | 2=>exact h2
 | 3=>exact h3
 | 4=>exact h4
 | 5=>exact h5
 | 6=>exact h6
 | 7=>exact h7
structure Bytes (t:Tr):Prop where
 bricks : ∀ l,t = .brick l→l.length=64 ∧ ∀ x∈l,0≤x∧x≤255
 unis : ∀ c,t = .uni c→0≤c∧c≤255
 nodes : ∀ d ch,t = .node d ch→d≤255
theorem Bytes.uni {c:Int} (h:0≤c∧c≤255):Bytes (.uni c):=⟨fun l e=>(by cases e),fun c' e=>(by injection e with e;exact e ▸ h),fun d ch e=>(by cases e)⟩
theorem Bytes.brick {l:List Int} (h:l.length=64 ∧ ∀ x∈l,0≤x∧x≤255):Bytes (.brick l):=⟨fun l' e=>(by injection e with e;exact e ▸ h),fun c e=>(by cases e),fun d ch e=>(by cases e)⟩
theorem Bytes.node {d:Nat} (h:d≤255) (ch:Fin 8→Tr):Bytes (.node d ch):=⟨fun l e=>(by cases e),fun c e=>(by cases e),fun d' ch' e=>(by injection e with e _;exact e ▸ h)⟩
theorem zMp : ∀ {l l':List Int},(∀ x∈l,0≤x∧x≤255)→(∀ x∈l',0≤x∧x≤255)→strOfNums l=strOfNums l'→l=l':=by
 intro l l' h h' e
 have e1:l.map (fun n=>UInt8.ofNat n.toNat)=l'.map (fun n=>UInt8.ofNat n.toNat):=by
  rw [←strOfNums_data,←strOfNums_data,e]
 clear e
 induction l generalizing l' with
 | nil => cases l' with
   | nil=>rfl
   | cons y r=>simp at e1
 | cons x l ih => cases l' with
   | nil=>simp at e1
   | cons y r =>
     simp only [List.map_cons,List.cons.injEq] at e1;have hx:=h x (by simp)
     have hy:=h' y (by simp)
     have e2:=congrArg UInt8.toNat e1.1;simp only [UInt8.toNat_ofNat'] at e2;have:x=y:=by omega
     rw [this,ih (fun z hz=>h z (by simp [hz])) (fun z hz=>h' z (by simp [hz])) e1.2]
theorem zIQ {ts:List Tr} {t t':Tr} (h:Leans ts t) (h':Leans ts t') (hb:Bytes t) (hb':Bytes t') (e:zh ts t=zh ts t'):t=t':=by
 cases t with
 | uni c => cases t' with
   | uni c'=>simp [zh,zII] at e;rw [e]
   | brick l=>simp [zh,zII] at e
   | node d ch=>simp [zh,zII] at e
 | brick l => cases t' with
   | uni c'=>simp [zh,zII] at e
   | brick l'=>simp [zh,zII] at e;rw [zMp (hb.bricks l rfl).2 (hb'.bricks l' rfl).2 e]
   | node d ch=>simp [zh,zII] at e
 | node d ch => cases t' with
   | uni c'=>simp [zh,zII] at e
   | brick l'=>simp [zh,zII] at e
   | node d' ch' =>
     simp only [zh,zII,Value.agg.injEq,Array.mk.injEq,List.cons.injEq,Value.int.injEq,true_and,and_true,Int.natCast_inj] at e;obtain ⟨e1,e2⟩:=e;subst e1
     have:ch=ch':=funext (fin8 (P:=fun i=>ch i=ch' i) (zU (h _ _ rfl _) (h' _ _ rfl _) e2.1) (zU (h _ _ rfl _) (h' _ _ rfl _) e2.2.1) (zU (h _ _ rfl _) (h' _ _ rfl _) e2.2.2.1) (zU (h _ _ rfl _) (h' _ _ rfl _) e2.2.2.2.1)
      (zU (h _ _ rfl _) (h' _ _ rfl _) e2.2.2.2.2.1) (zU (h _ _ rfl _) (h' _ _ rfl _) e2.2.2.2.2.2.1) (zU (h _ _ rfl _) (h' _ _ rfl _) e2.2.2.2.2.2.2.1) (zU (h _ _ rfl _) (h' _ _ rfl _) e2.2.2.2.2.2.2.2))
     rw [this]
end Go.Proofs.YtgnfgblkpnfcnaaGreatDoor
namespace Go.Proofs.YtgnfgblkpnfcnaaGreatDoor
open Go.RowKit Go.Sort Go.Maps
open Oct
structure Good (ts:List Tr):Prop where
 closed:Tr.Closed ts
 bytes : ∀ t∈ts,Bytes t
theorem Good.leans {ts:List Tr} (h:Good ts) {t:Tr} (ht:t∈ts):Leans ts t:=fun d ch e i=>h.closed.2 d ch (e ▸ ht) i
theorem Leans.later {ts ts':List Tr} (hp:ts <+: ts') {t:Tr} (h:Leans ts t):Leans ts' t:=fun d ch e i=>hp.subset (h d ch e i)
open Classical in
noncomputable def zFq (ts:List Tr) (v:Value):Option Int:=if h : ∃ t,t∈ts∧zh ts t=v then some (idT ts h.choose:Int) else none
theorem zFt {ts:List Tr} (hG:Good ts) {t:Tr} (ht:t∈ts):zFq ts (zh ts t)=some (idT ts t:Int):=by
 have h : ∃ t',t'∈ts∧zh ts t'=zh ts t:=⟨t,ht,rfl⟩;unfold zFq;rw [dif_pos h];have hs:=h.choose_spec;have e:h.choose=t:=zIQ (hG.leans hs.1) (hG.leans ht) (hG.bytes _ hs.1) (hG.bytes _ ht) hs.2;rw [e]
theorem zFv {ts:List Tr} (hG:Good ts) {t:Tr} (ht:t ∉ ts) (hl:Leans ts t) (hb:Bytes t):zFq ts (zh ts t)=none:=by
 unfold zFq;rw [dif_neg];rintro ⟨t',h1,h2⟩;exact ht (zIQ (hG.leans h1) hl (hG.bytes _ h1) hb h2 ▸ h1)
open Classical in
theorem zFr {ts:List Tr} (hG:Good ts) {t:Tr} (ht:t ∉ ts) (hl:Leans ts t) (hb:Bytes t) (v:Value) :
 zFq (ts++[t]) v=if v=zh ts t then some (ts.length:Int) else zFq ts v:=by
 have hp:ts <+: ts++[t]:=List.prefix_append _ _
 have hl2 : ∀ t'∈ts++[t],Leans (ts++[t]) t':=fun t' h=>by
  rcases List.mem_append.1 h with h | h
  · exact (hG.leans h).later hp
  · rw [List.mem_singleton.1 h];exact hl.later hp
 have hb2 : ∀ t'∈ts++[t],Bytes t':=fun t' h=>by
  rcases List.mem_append.1 h with h | h
  · exact hG.bytes _ h
  · rw [List.mem_singleton.1 h];exact hb
 have uniq : ∀ x,x∈ts++[t]→zh (ts++[t]) x=v→zFq (ts++[t]) v=some (idT (ts++[t]) x:Int):=by
  intro x hx e;have h : ∃ t',t'∈ts++[t]∧zh (ts++[t]) t'=v:=⟨x,hx,e⟩;unfold zFq;rw [dif_pos h];have hs:=h.choose_spec;rw [zIQ (hl2 _ hs.1) (hl2 _ hx) (hb2 _ hs.1) (hb2 _ hx) (hs.2.trans e.symm)]
 by_cases e:v=zh ts t
 · rw [if_pos e,uniq t (by simp) (by rw [zi hp hl,e]),zFE ht]
 · rw [if_neg e];by_cases h : ∃ t',t'∈ts∧zh ts t'=v
   · obtain ⟨x,hx,hxe⟩:=h;rw [uniq x (by simp [hx]) (by rw [zi hp (hG.leans hx)];exact hxe),zV hp hx,←hxe,zFt hG hx]
   · have h2 : ¬ ∃ t',t'∈ts++[t]∧zh (ts++[t]) t'=v:=by
      rintro ⟨x,hx,hxe⟩;rcases List.mem_append.1 hx with hx | hx
      · exact h ⟨x,hx,by rw [←zi hp (hG.leans hx)];exact hxe⟩
      · rw [List.mem_singleton.1 hx,zi hp hl] at hxe;exact e hxe.symm
     unfold zFq;rw [dif_neg h,dif_neg h2]
theorem Good.add {ts:List Tr} (hG:Good ts) {t:Tr} (ht:t ∉ ts) (hl:Leans ts t) (hb:Bytes t):Good (ts++[t]):=by
 refine ⟨⟨?_,fun d ch h i=>?_⟩,fun x h=>?_⟩
 · rw [List.nodup_append];exact ⟨hG.closed.1,by simp,fun a ha b hb' e=>by rw [List.mem_singleton.1 hb'] at e;exact ht (e ▸ ha)⟩
 · rcases List.mem_append.1 h with h | h
   · exact List.mem_append_left _ (hG.closed.2 d ch h i)
   · exact List.mem_append_left _ (hl d ch (List.mem_singleton.1 h).symm i)
 · rcases List.mem_append.1 h with h | h
   · exact hG.bytes _ h
   · rw [List.mem_singleton.1 h];exact hb
noncomputable def zLX (ts:List Tr):List Value:=ts.flatMap fun t=>(zh ts t).cells.toList
theorem zLY {ts:List Tr} (hG:Good ts) {t:Tr} (hl:Leans ts t):zLX (ts++[t])=zLX ts++(zh ts t).cells.toList:=by
 have hp:ts <+: ts++[t]:=List.prefix_append _ _;unfold zLX;rw [List.flatMap_append,List.flatMap_cons,List.flatMap_nil,List.append_nil,zi hp hl]
 congr 1
 have key : ∀ l:List Tr,(∀ x∈l,x∈ts)→l.flatMap (fun t'=>(zh (ts++[t]) t').cells.toList)=l.flatMap (fun t'=>(zh ts t').cells.toList):=by
  intro l
  induction l with
  | nil=>intro _;rfl
  | cons x r ih =>
    intro h;rw [List.flatMap_cons,List.flatMap_cons,ih (fun y hy=>h y (by simp [hy])),zi hp (hG.leans (h x (by simp)))]
 exact key ts fun x hx=>hx
def StoreIs (w:World) (Far:Nat→Prop) (sb:Nat) (most:Int) (ts:List Tr):Prop :=
 ∃ mb nv,Bk w sb #[most,nv,.map (some mb)] 102∧w.ownsRow 0 111 12 nv ts.length (zLX ts)∧MapFn w mb ts.length (zFq ts) ∧ ¬Far sb ∧ ¬Far mb∧(∀ g,nv.ownBlock=some g → ¬Far g)∧sb ≠ mb∧nv.ownBlock ≠ some sb∧nv.ownBlock ≠ some mb
theorem zQ {w w':World} (hb:Below w.heap.size w w'):w.grownBy w' none:=⟨hb.os,hb.tape,hb.output,hb.size,fun k hk _=>hb.block k hk⟩
theorem StoreIs.later {w w':World} {Far:Nat→Prop} {sb:Nat} {most:Int} {ts:List Tr} (h:StoreIs w Far sb most ts) (hb:Below w.heap.size w w'):StoreIs w' Far sb most ts:=by
 obtain ⟨mb,nv,h1,h2,h3,h4⟩:=h;have hg:=zQ hb;exact ⟨mb,nv,h1.later hb,World.ownsRow.kept h2 hg (by cases nv.ownBlock <;> simp),h3.kept hg (by simp),h4⟩
theorem StoreIs.widen {w:World} {Far Far':Nat→Prop} {sb:Nat} {most:Int} {ts:List Tr} (h:StoreIs w Far sb most ts) (hf : ∀ k,Far' k→Far k∨w.heap.size≤k):StoreIs w Far' sb most ts:=by
 obtain ⟨mb,nv,h1,h2,h3,h4,h5,h6,h7⟩:=h;have l1:=h1.lt;have l2:=h3.lt;refine ⟨mb,nv,h1,h2,h3,fun h=>?_,fun h=>?_,fun g hg h=>?_,h7⟩
 · rcases hf _ h with h | h
   · exact h4 h
   · omega
 · rcases hf _ h with h | h
   · exact h5 h
   · omega
 · rcases hf _ h with h | h
   · exact h6 g hg h
   · have:=(World.ownsRow.lt h2 g hg).2;omega
structure Keeps (Far:Nat→Prop) (w w':World):Prop where
 os:w'.os=w.os
 tape:w'.tape=w.tape
 output:w'.output=w.output
 size:w.heap.size≤w'.heap.size
 block : ∀ k,Far k→k<w.heap.size→w'.heap[k]? = w.heap[k]?
theorem Keeps.refl (Far:Nat→Prop) (w:World):Keeps Far w w:=⟨rfl,rfl,rfl,Nat.le_refl _,fun _ _ _=>rfl⟩
theorem Keeps.trans {Far:Nat→Prop} {a b c:World} (h:Keeps Far a b) (h':Keeps Far b c):Keeps Far a c :=
 ⟨h'.os.trans h.os,h'.tape.trans h.tape,h'.output.trans h.output,Nat.le_trans h.size h'.size,fun k hk hl=>(h'.block k hk (Nat.lt_of_lt_of_le hl h.size)).trans (h.block k hk hl)⟩
theorem Keeps.below {Far:Nat→Prop} {a b:World} (h:Below a.heap.size a b):Keeps Far a b:=⟨h.os,h.tape,h.output,h.size,fun k _ hl=>h.block k hl⟩
theorem Keeps.grown {Far:Nat→Prop} {a b:World} {row:Option Nat} (h:a.grownBy b row) (hr : ∀ g,row=some g → ¬Far g):Keeps Far a b :=
 ⟨h.os,h.tape,h.output,h.size,fun k hk hl=>h.block k hl (fun e=>hr k e.symm hk)⟩
theorem Keeps.narrow {Far Far':Nat→Prop} {a b:World} (h:Keeps Far a b) (hf : ∀ k,Far' k→k<a.heap.size→Far k):Keeps Far' a b:=⟨h.os,h.tape,h.output,h.size,fun k hk hl=>h.block k (hf k hk hl) hl⟩
theorem Bk.far {w w':World} {Far:Nat→Prop} {b:Nat} {vs:Array Value} {t:TypeId} (h:Bk w b vs t) (hk:Keeps Far w w') (hf:Far b):Bk w' b vs t:=(hk.block b hf h.lt).trans h
end Go.Proofs.YtgnfgblkpnfcnaaGreatDoor
end
