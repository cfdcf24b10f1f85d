/- Pgp, Vox, Tree, Reg, Store, Store2, Dec: joined by program, for one claim. -/
import Derived.Test.YtajhkncolbgkbaaM1
import Derived.Test.YtajhkncolbgkbaaProg
import Derived.WalkKit
import Derived.Lib.QuietBelow
import Derived.StillTail
import Derived.BigQuiet
import Derived.Maps.OwnSet
import Derived.Maps.Views
import Derived.DeepKeys4
import Derived.Laws.BytesArg
set_option linter.unusedVariables false
set_option linter.unusedSimpArgs false
section
namespace Go.Proofs.Ytajhkncolbgkbaa
instance (l:List Int):Decidable (goodP l):=by unfold goodP;infer_instance
def numOf (l:List Int):Nat:=if goodP l then numP l else 0
def dataP (l:List Int):List Int:=(l.drop 4).take 116
inductive DOp where
 | w (page:Nat) (s:List Int)
 | f
def Dk.op (d:Dk):DOp→Dk × Int
 | .w i s=>d.write i 0 s
 | .f=>d.flush
def Dk.run (d:Dk):List DOp→Dk × Int
 | []=>(d,0)
 | o::l=>if (d.op o).2=0 then (d.op o).1.run l else d.op o
def recP (l:List Nat):List Int:=(((l.length % 256:Nat):Int)::l.flatMap fun x=>[((x % 256:Nat):Int),((x / 256 % 256:Nat):Int)])++zerosP (115 - 2 * l.length)
theorem rec_len {l:List Nat} (h:l.length≤57):(recP l).length=116:=by
 have : ∀ l:List Nat,(l.flatMap fun x=>[((x % 256:Nat):Int),((x / 256 % 256:Nat):Int)]).length=2 * l.length:=by
  intro l
  induction l with
  | nil=>rfl
  | cons x l ih=>rw [List.flatMap_cons,List.length_append,ih,List.length_cons];simp only [List.length_cons,List.length_nil];omega
 unfold recP zerosP
 rw [List.length_append,List.length_cons,this,List.length_replicate]
 omega
theorem rec_byts (l:List Nat):Byts (recP l):=by
 intro x hx
 simp only [recP,zerosP,List.cons_append,List.mem_cons,List.mem_append,List.mem_flatMap,List.mem_replicate] at hx
 rcases hx with rfl | ⟨y,_,rfl | rfl | h⟩ | ⟨_,rfl⟩
 · omega
 · omega
 · omega
 · cases h
 · omega
def word2 (data:List Int) (j:Nat):Nat:=(data.getD (1+2 * j) 0).toNat+256 * (data.getD (2+2 * j) 0).toNat
theorem rec_word {l:List Nat} (hl : ∀ x∈l,x<65536) {j:Nat} {x:Nat} (h:l[j]? = some x):word2 (recP l) j=x:=by
 have key : ∀ (l:List Nat) (r:List Int) (j x:Nat),(∀ x∈l,x<65536)→l[j]? = some x→((l.flatMap fun x=>[((x % 256:Nat):Int),((x / 256 % 256:Nat):Int)])++r).getD (2 * j) 0=((x % 256:Nat):Int)∧((l.flatMap fun x=>[((x % 256:Nat):Int),((x / 256 % 256:Nat):Int)])++r).getD (2 * j+1) 0=((x / 256 % 256:Nat):Int):=by
  intro l
  induction l with
  | nil=>intro r j x _ h;simp at h
  | cons y l ih =>
    intro r j x hl h
    cases j with
    | zero =>
      obtain rfl:y=x:=by simpa using h
      exact ⟨rfl,rfl⟩
    | succ j =>
      have:=ih r j x (fun z hz=>hl z (List.mem_cons_of_mem _ hz)) (by simpa using h)
      rw [List.flatMap_cons,show 2 * (j+1)=2 * j+1+1 by omega]
      simp only [List.cons_append,List.nil_append,List.getD_cons_succ]
      exact this
 have hx:=hl x (List.mem_of_getElem? h)
 obtain ⟨h1,h2⟩:=key l (zerosP (115 - 2 * l.length)) j x hl h
 unfold word2 recP
 rw [show 1+2 * j=2 * j+1 by omega,show 2+2 * j=2 * j+1+1 by omega]
 simp only [List.cons_append,List.getD_cons_succ]
 rw [h1,h2]
 omega
def tgGo (image:List (List Int)) (t:Nat) (data:List Int):Nat→Option (List Nat)
 | 0=>some []
 | j + 1 => match tgGo image t data j with
   | none=>none
   | some l=>if goodP (image.getD (1+j) [])∧numP (image.getD (1+j) [])=t∧word2 data j+17<image.length∧(0<j→l.getD (j - 1) 0<word2 data j) then some (l++[word2 data j]) else none
def logK (image:List (List Int)):Nat:=if goodP (image.getD 0 []) then ((dataP (image.getD 0 [])).getD 0 0).toNat else 0
def targetsP (image:List (List Int)):List Nat :=
 if numOf (image.getD 0 [])=0∨logK image<1∨16<logK image then [] else match tgGo image (numOf (image.getD 0 [])) (dataP (image.getD 0 [])) (logK image) with
 | none=>[]
 | some l=>if recP l=dataP (image.getD 0 []) then l else []
theorem tg_len {image:List (List Int)} {t:Nat} {data:List Int} : ∀ {k:Nat} {l:List Nat},tgGo image t data k=some l→l.length=k
 | 0,l,h=>by simp only [tgGo,Option.some.injEq] at h;subst h;rfl
 | k + 1, l, h => by
   unfold tgGo at h
   cases h1:tgGo image t data k with
   | none=>rw [h1] at h;cases h
   | some m =>
     rw [h1] at h
     simp only at h
     split at h
     · simp only [Option.some.injEq] at h;subst h
       rw [List.length_append,tg_len h1];rfl
     · cases h
theorem tg_some {image:List (List Int)} {t:Nat} {data:List Int} {l:List Nat} (hw : ∀ j x,l[j]? = some x→word2 data j=x) (hg : ∀ j,j<l.length→goodP (image.getD (1+j) [])∧numP (image.getD (1+j) [])=t) (hi : ∀ x∈l,x+17<image.length) (hs:l.Pairwise (· < ·)) : ∀ k,k≤l.length→tgGo image t data k=some (l.take k)
 | 0,_=>rfl
 | k + 1, hk => by
   have h1:=tg_some hw hg hi hs k (by omega)
   have hkl:k<l.length:=by omega
   have hx:=hw k l[k] (List.getElem?_eq_getElem hkl)
   unfold tgGo
   rw [h1]
   simp only
   have hlt:0<k→(l.take k).getD (k - 1) 0<word2 data k:=fun h0=>by
    rw [hx,List.getD_eq_getElem?_getD,List.getElem?_take,if_pos (by omega),List.getElem?_eq_getElem (by omega)]
    exact List.pairwise_iff_getElem.1 hs (k - 1) k (by omega) hkl (by omega)
   rw [if_pos ⟨(hg k hkl).1,(hg k hkl).2,by rw [hx];exact hi _ (List.getElem_mem hkl),hlt⟩,hx,List.take_succ_eq_append_getElem hkl]
theorem tg_none {image:List (List Int)} {t:Nat} {data:List Int} {i:Nat} (h : ¬goodP (image.getD (1+i) [])) : ∀ k,i<k→tgGo image t data k=none
 | 0,hk=>by omega
 | k + 1, hk => by
   unfold tgGo
   by_cases e:i=k
   · subst e
     cases tgGo image t data i with
     | none=>rfl
     | some l=>simp only;rw [if_neg (fun h'=>h h'.1)]
   · rw [tg_none h k (by omega)]
def replayP (image:List (List Int)):List DOp:=((targetsP image).mapIdx fun j x=>DOp.w (17+x) (image.getD (1+j) []))++(if targetsP image=[] then [] else [.f])
def stepsP (t:Nat) (l:List (Nat × List Int)):List DOp :=
 (l.mapIdx fun j x=>DOp.w (1+j) (sealP t x.2))++DOp.w 0 (sealP t (recP (l.map (·.1)))) :: .f::(l.map fun x=>DOp.w (17+x.1) (sealP t x.2))++[.f]
structure Pgs where
 d:Dk
 number:Nat
 bad:List Nat
 closed:Bool
def Pgs.check (s:Pgs) (l:List (Int × List Int)):Int :=
 if s.closed=true then 20
 else if 16<l.length∨1073741824≤s.number then 2
 else if l=[] then 1
 else if (∀ x∈l,0≤x.1∧x.1+17<s.d.p.length∧x.2.length=116)∧(l.map (·.1)).Pairwise (· < ·) then 0 else 1
end Go.Proofs.Ytajhkncolbgkbaa
end
section
namespace Go.Proofs.Ytajhkncolbgkbaa
structure Pt where
 x:Int
 y:Int
 z:Int
deriving DecidableEq
structure Box where
 lo:Pt
 hi:Pt
deriving DecidableEq
def Pt.zero:Pt:=⟨0,0,0⟩
def Box.zero:Box:=⟨Pt.zero,Pt.zero⟩
def Pt.add (p q:Pt):Pt:=⟨p.x+q.x,p.y+q.y,p.z+q.z⟩
def Pt.sub (p q:Pt):Pt:=⟨p.x - q.x,p.y - q.y,p.z - q.z⟩
def inB (p:Pt) (b:Box):Bool:=decide (b.lo.x≤p.x∧p.x<b.hi.x∧b.lo.y≤p.y∧p.y<b.hi.y∧b.lo.z≤p.z∧p.z<b.hi.z)
def emptyB (b:Box):Bool := !inB b.lo b
def sizeB (b:Box):Pt:=if emptyB b=true then Pt.zero else b.hi.sub b.lo
def volB (b:Box):Int:=(sizeB b).x * (sizeB b).y * (sizeB b).z
def indexB (b:Box) (p:Pt):Int:=if inB p b=true then ((p.z - b.lo.z) * (sizeB b).y+(p.y - b.lo.y)) * (sizeB b).x+(p.x - b.lo.x) else -1
def atB (b:Box) (i:Int):Pt:=if 0≤i∧i<volB b then ⟨b.lo.x+i % (sizeB b).x,b.lo.y+i / (sizeB b).x % (sizeB b).y,b.lo.z+i / (sizeB b).x / (sizeB b).y⟩ else Pt.zero
structure Small (b:Box) (m:Int):Prop where
 lx : -m≤b.lo.x
 ly : -m≤b.lo.y
 lz : -m≤b.lo.z
 hx:b.hi.x≤m
 hy:b.hi.y≤m
 hz:b.hi.z≤m
theorem inB_iff {p:Pt} {b:Box}:inB p b=true ↔ b.lo.x≤p.x∧p.x<b.hi.x∧b.lo.y≤p.y∧p.y<b.hi.y∧b.lo.z≤p.z∧p.z<b.hi.z:=by simp [inB]
theorem emptyB_iff {b:Box}:emptyB b=false ↔ b.lo.x<b.hi.x∧b.lo.y<b.hi.y∧b.lo.z<b.hi.z:=by simp [emptyB,inB]
theorem sizeB_full {b:Box} (h:emptyB b=false):sizeB b=b.hi.sub b.lo:=by simp [sizeB,h]
theorem in_not_empty {p:Pt} {b:Box} (h:inB p b=true):emptyB b=false:=by
 have:=inB_iff.1 h
 rw [emptyB_iff];omega
theorem indexB_bd {p:Pt} {b:Box} (h:inB p b=true):0≤indexB b p∧indexB b p<volB b:=by
 have he:=in_not_empty h
 have h':=inB_iff.1 h
 unfold indexB volB
 rw [if_pos h,sizeB_full he]
 simp only [Pt.sub]
 generalize hx:p.x - b.lo.x=dx
 generalize hy:p.y - b.lo.y=dy
 generalize hz:p.z - b.lo.z=dz
 generalize hsx:b.hi.x - b.lo.x=sx
 generalize hsy:b.hi.y - b.lo.y=sy
 generalize hsz:b.hi.z - b.lo.z=sz
 have a1:0≤dx:=by omega
 have a2:dx+1≤sx:=by omega
 have a3:0≤dy:=by omega
 have a4:dy+1≤sy:=by omega
 have a5:0≤dz:=by omega
 have a6:dz+1≤sz:=by omega
 have b1:0≤dz * sy:=Int.mul_nonneg a5 (by omega)
 have b2:dz * sy+sy≤sz * sy:=by
  have:=Int.mul_le_mul_of_nonneg_right a6 (show 0≤sy by omega)
  rw [Int.add_mul,Int.one_mul] at this;exact this
 have b3:0≤(dz * sy+dy) * sx:=Int.mul_nonneg (by omega) (by omega)
 have b4:(dz * sy+dy+1) * sx≤sz * sy * sx:=Int.mul_le_mul_of_nonneg_right (by omega) (by omega)
 rw [Int.add_mul,Int.one_mul] at b4
 have b5:sx * sy * sz=sz * sy * sx:=by rw [Int.mul_comm sx sy,Int.mul_comm (sy * sx) sz,Int.mul_assoc]
 omega
end Go.Proofs.Ytajhkncolbgkbaa
end
section
namespace Go.Proofs.Ytajhkncolbgkbaa
namespace Oct
inductive Tr where
 | uni (c:Int)
 | brick (l:List Int)
 | node (d:Nat) (ch:Fin 8→Tr)
namespace Tr
open Classical in
noncomputable def mkInner (d:Nat) (ch:Fin 8→Tr):Tr:=if (∃ c,ch 0 = .uni c) ∧ ∀ i,ch i=ch 0 then ch 0 else .node d ch
def mkBrick (l:List Int):Tr:=if ∀ x∈l,x=l.headD 0 then .uni (l.headD 0) else .brick l
def cor (a:Pt) (n:Nat) (i:Nat):Pt:=⟨a.x+(i % 2:Nat) * 2 ^ (n+2),a.y+(i / 2 % 2:Nat) * 2 ^ (n+2),a.z+(i / 4:Nat) * 2 ^ (n+2)⟩
def cellAt (a:Pt) (k:Nat):Pt:=⟨a.x+(k % 4:Nat),a.y+(k / 4 % 4:Nat),a.z+(k / 16:Nat)⟩
def cells:Tr→List Int
 | .uni c=>List.replicate 64 c
 | .brick l=>l
 | .node _ _=>[]
noncomputable def can (f:Pt→Int):Nat→Pt→Tr
 | 0,a=>mkBrick ((List.range 64).map fun k=>f (cellAt a k))
 | n+1,a=>mkInner (n+3) fun i=>can f n (cor a n i.val)
theorem getD_el {l:List Int} {i:Nat} (h:i<l.length):l.getD i 0=l[i]:=by simp [List.getD,h]
def upd (f:Pt→Int) (p:Pt) (c:Int):Pt→Int:=fun q=>if q=p then c else f q
open Classical in
noncomputable def add:Tr→List Tr→List Tr
 | .node d ch,ts=>if .node d ch∈ts then ts else (List.finRange 8).foldl (fun a i=>add (ch i) a) ts++[.node d ch]
 | .uni c,ts=>if .uni c∈ts then ts else ts++[.uni c]
 | .brick l,ts=>if .brick l∈ts then ts else ts++[.brick l]
noncomputable def addK (ch:Fin 8→Tr) (k:Nat) (ts:List Tr):List Tr:=((List.finRange 8).take k).foldl (fun a i=>add (ch i) a) ts
theorem addK_zero (ch:Fin 8→Tr) (ts:List Tr):addK ch 0 ts=ts:=rfl
theorem addK_succ (ch:Fin 8→Tr) {k:Nat} (hk:k<8) (ts:List Tr):addK ch (k+1) ts=add (ch ⟨k,hk⟩) (addK ch k ts):=by
 unfold addK
 rw [List.take_succ_eq_append_getElem (by simpa using hk),List.foldl_append]
 simp
theorem addK_all (ch:Fin 8→Tr) (ts:List Tr):addK ch 8 ts=(List.finRange 8).foldl (fun a i=>add (ch i) a) ts:=by
 unfold addK;rw [List.take_of_length_le (by simp)]
open Classical in
theorem add_node (d:Nat) (ch:Fin 8→Tr) (ts:List Tr):add (.node d ch) ts=if .node d ch∈ts then ts else addK ch 8 ts++[.node d ch]:=by
 rw [addK_all,add]
open Classical in
noncomputable def ins (t:Tr) (ts:List Tr):List Tr:=if t∈ts then ts else ts++[t]
theorem add_uni (c:Int) (ts:List Tr):add (.uni c) ts=ins (.uni c) ts:=by rw [add,ins]
theorem add_brick (l:List Int) (ts:List Tr):add (.brick l) ts=ins (.brick l) ts:=by rw [add,ins]
def Closed (ts:List Tr):Prop:=ts.Nodup ∧ ∀ d ch,Tr.node d ch∈ts → ∀ i,ch i∈ts
theorem Closed.nil:Closed []:=⟨by simp,fun d ch h=>by simp at h⟩
theorem addK_ind {P:List Tr→Prop} {ch:Fin 8→Tr} (ih : ∀ i ts,P ts→P (add (ch i) ts)) : ∀ k,k≤8 → ∀ ts,P ts→P (addK ch k ts)
 | 0,_,ts,h=>by rw [addK_zero];exact h
 | k+1,hk,ts,h=>by rw [addK_succ ch (by omega)];exact ih _ _ (addK_ind ih k (by omega) ts h)
theorem ins_of_mem {t:Tr} {ts:List Tr} (h:t∈ts):ins t ts=ts:=if_pos h
theorem ins_of_not {t:Tr} {ts:List Tr} (h:t ∉ ts):ins t ts=ts++[t]:=if_neg h
theorem ins_prefix (t:Tr) (ts:List Tr):ts <+: ins t ts:=by
 by_cases h:t∈ts
 · rw [ins_of_mem h];exact List.prefix_refl _
 · rw [ins_of_not h];exact List.prefix_append _ _
theorem mem_ins (t:Tr) (ts:List Tr):t∈ins t ts:=by
 by_cases h:t∈ts
 · rw [ins_of_mem h];exact h
 · rw [ins_of_not h];simp
theorem add_prefix : ∀ (t:Tr) (ts:List Tr),ts <+: add t ts:=by
 intro t
 induction t with
 | uni c=>intro ts;rw [add_uni];exact ins_prefix _ _
 | brick l=>intro ts;rw [add_brick];exact ins_prefix _ _
 | node d ch ih =>
   intro ts
   rw [add_node]
   split
   · exact List.prefix_refl _
   · exact (addK_ind (P:=fun a=>ts <+: a) (fun i a h=>h.trans (ih i a)) 8 (Nat.le_refl _) ts (List.prefix_refl _)).trans (List.prefix_append _ _)
theorem mem_add (t:Tr) (ts:List Tr):t∈add t ts:=by
 cases t with
 | uni c=>rw [add_uni];exact mem_ins _ _
 | brick l=>rw [add_brick];exact mem_ins _ _
 | node d ch =>
   rw [add_node]
   split
   · assumption
   · simp
theorem add_same : ∀ (t:Tr) (ts:List Tr),t∈ts→add t ts=ts:=by
 intro t ts h
 cases t with
 | uni c=>rw [add_uni,ins_of_mem h]
 | brick l=>rw [add_brick,ins_of_mem h]
 | node d ch=>rw [add_node,if_pos h]
theorem addK_mem (ch:Fin 8→Tr) (ts:List Tr) : ∀ k,k≤8 → ∀ i:Fin 8,i.val<k→ch i∈addK ch k ts
 | 0,_,i,h=>by omega
 | k + 1, hk, i, h => by
   rw [addK_succ ch (by omega)]
   by_cases e:i.val=k
   · rw [show i=⟨k,by omega⟩ from Fin.ext e]
     exact mem_add _ _
   · exact (add_prefix _ _).subset (addK_mem ch ts k (by omega) i (by omega))
def sz:Tr→Nat
 | .uni _=>1
 | .brick _=>1
 | .node _ ch=>1+(List.ofFn fun i=>sz (ch i)).sum
theorem le_sum {l:List Nat} {x:Nat} (h:x∈l):x≤l.sum:=by
 induction l with
 | nil=>simp at h
 | cons y l ih =>
   simp only [List.sum_cons]
   rcases List.mem_cons.1 h with rfl | h
   · omega
   · have:=ih h;omega
theorem sz_kid (d:Nat) (ch:Fin 8→Tr) (i:Fin 8):sz (ch i)<sz (.node d ch):=by
 have:sz (ch i)≤(List.ofFn fun i=>sz (ch i)).sum:=le_sum (List.mem_ofFn.2 ⟨i,rfl⟩)
 simp only [sz];omega
theorem of_mem_ins {x t:Tr} {ts:List Tr} (h:x∈ins t ts):x∈ts∨x=t:=by
 by_cases h':t∈ts
 · rw [ins_of_mem h'] at h;exact .inl h
 · rw [ins_of_not h'] at h;simpa using h
theorem of_mem_add : ∀ (t:Tr) (ts:List Tr) (x:Tr),x∈add t ts→x∈ts∨x=t∨sz x<sz t:=by
 intro t
 induction t with
 | uni c=>intro ts x h;rw [add_uni] at h;rcases of_mem_ins h with h | h;exact .inl h;exact .inr (.inl h)
 | brick l=>intro ts x h;rw [add_brick] at h;rcases of_mem_ins h with h | h;exact .inl h;exact .inr (.inl h)
 | node d ch ih =>
   intro ts x h
   rw [add_node] at h
   split at h
   · exact .inl h
   · rcases List.mem_append.1 h with h | h
     · have:=addK_ind (P:=fun a => ∀ x∈a,x∈ts∨sz x<sz (.node d ch)) (fun i a ha x hx=>by
        rcases ih i a x hx with h | rfl | h
        · exact ha x h
        · exact .inr (sz_kid d ch i)
        · exact .inr (Nat.lt_trans h (sz_kid d ch i))) 8 (Nat.le_refl _) ts (fun x hx=>.inl hx) x h
       rcases this with h | h
       · exact .inl h
       · exact .inr (.inr h)
     · simp at h;exact .inr (.inl h)
theorem not_mem_kids {d:Nat} {ch:Fin 8→Tr} {ts:List Tr} (h : .node d ch ∉ ts) (k:Nat) (hk:k≤8) : .node d ch ∉ addK ch k ts:=by
 have:=addK_ind (P:=fun a=>Tr.node d ch ∉ a) (ch:=ch) (fun i a ha hx=>by
  rcases of_mem_add _ _ _ hx with h | h | h
  · exact ha h
  · have:=sz_kid d ch i;rw [←h] at this;omega
  · have:=sz_kid d ch i;omega) k hk ts h
 exact this
theorem Closed.ins {t:Tr} {ts:List Tr} (h:Closed ts) (hk : ∀ d ch,t = .node d ch → ∀ i,ch i∈ts):Closed (ins t ts):=by
 by_cases hm:t∈ts
 · rw [ins_of_mem hm];exact h
 · rw [ins_of_not hm]
   refine ⟨?_,fun d ch hc i=>?_⟩
   · rw [List.nodup_append]
     exact ⟨h.1,by simp,fun a ha b hb=>by simp at hb;subst hb;rintro rfl;exact hm ha⟩
   · rcases List.mem_append.1 hc with hc | hc
     · exact List.mem_append.2 (.inl (h.2 d ch hc i))
     · simp at hc;exact List.mem_append.2 (.inl (hk d ch hc.symm i))
theorem node_add {d:Nat} {ch:Fin 8→Tr} {ts:List Tr} (h:Closed ts):add (.node d ch) ts=Tr.ins (.node d ch) (addK ch 8 ts):=by
 rw [add_node]
 split
 · rename_i hm
   have:addK ch 8 ts=ts:=addK_ind (P:=fun a=>a=ts) (fun i a ha=>by subst ha;exact add_same _ _ (h.2 d ch hm i)) 8 (Nat.le_refl _) ts rfl
   rw [this,ins_of_mem hm]
 · rename_i hm
   rw [ins_of_not (not_mem_kids hm 8 (Nat.le_refl _))]
theorem Closed.add : ∀ (t:Tr) {ts:List Tr},Closed ts→Closed (add t ts):=by
 intro t
 induction t with
 | uni c=>intro ts h;rw [add_uni];exact h.ins (fun d ch e=>by cases e)
 | brick l=>intro ts h;rw [add_brick];exact h.ins (fun d ch e=>by cases e)
 | node d ch ih =>
   intro ts h
   rw [node_add h]
   exact (addK_ind (P:=Closed) (fun i a ha=>ih i ha) 8 (Nat.le_refl _) ts h).ins (fun d' ch' e i=>by
    injection e with e1 e2
    subst e2
    exact addK_mem _ ts 8 (Nat.le_refl _) i i.isLt)
theorem Closed.addK {ch:Fin 8→Tr} {ts:List Tr} (h:Closed ts) (k:Nat) (hk:k≤8):Closed (addK ch k ts):=addK_ind (P:=Closed) (fun _i _a ha=>Closed.add _ ha) k hk ts h
open Classical in
theorem inner_add {d:Nat} {ch:Fin 8→Tr} {ts:List Tr} (h:Closed ts) :
 add (mkInner d ch) ts=if mkInner d ch=ch 0∧(∃ c,ch 0 = .uni c) then addK ch 8 ts else Tr.ins (.node d ch) (addK ch 8 ts):=by
 unfold mkInner
 split
 · rename_i hc
   obtain ⟨⟨c,hc⟩,hall⟩:=hc
   rw [if_pos ⟨rfl,c,hc⟩]
   have : ∀ k,k≤7→Tr.addK ch (k+1) ts=Tr.add (ch 0) ts:=by
    intro k
    induction k with
    | zero=>intro _;rw [addK_succ ch (by omega),addK_zero];rfl
    | succ k ih =>
      intro hk
      rw [addK_succ ch (by omega),ih (by omega),hall ⟨k+1,by omega⟩]
      exact add_same _ _ (mem_add _ _)
   exact (this 7 (Nat.le_refl _)).symm
 · rename_i hc
   rw [if_neg,node_add h]
   rintro ⟨e1,c,e2⟩
   rw [e2] at e1;cases e1
def enc:Tr→List Int
 | .uni c=>[117,c]
 | .brick l=>98::l
 | .node d ch=>110::(d:Int)::(List.ofFn fun i=>enc (ch i)).flatten
def WF:Tr→Prop
 | .uni c=>0≤c∧c≤255
 | .brick l=>l.length=64 ∧ ∀ x∈l,0≤x∧x≤255
 | .node d ch=>d≤255 ∧ ∀ i,WF (ch i)
end Tr
end Oct
end Go.Proofs.Ytajhkncolbgkbaa
end
section
namespace Go.Proofs.Ytajhkncolbgkbaa
open Go.Sort Go.RowKit
def backB (md:Region.Mode) (l:List Oper) (n:Nat):Bool :=
 (List.range n).all fun j=>match l[j]? with
  | some o=>(o.after.all fun e => !Region.binds md e || decide (e.on<j)) && (match o.guard with | some g=>decide (g.1<j) | none=>true)
  | none=>false
def tailB (md:Region.Mode) (l:List Oper) (n:Nat):Bool :=
 ((List.range n).all fun i=>Region.waitsFor md l.toArray n i) && (List.range l.length).all fun t=>decide (t≤n) || Region.waitsFor md l.toArray t (t - 1)
def headB (l:List Oper) (n:Nat):Bool :=
 decide (n<l.length) && backB .any l n && tailB .any l n && Region.lexB .any (l.take n).toArray && Region.seqB .any l.toArray (l.length - n) n (Array.replicate n true++Array.replicate (l.length - n) false)
section
variable {P:Program} {md:Region.Mode} {l:List Oper} {n:Nat} {C:World→Prop}
theorem take_get {j:Nat} (hj:j<n):(l.take n).toArray[j]? = l.toArray[j]? := by simp [hj]
theorem app_get {s:Array Bool} (hs:s.size=n) {g j:Nat} (hj:j<n) (d:Bool):(s++Array.replicate g false).getD j d=s.getD j d:=by
 have h1:j<s.size:=by omega
 simp [Array.getD_eq_getD_getElem?,Array.getElem?_append,h1]
theorem app_tail {s:Array Bool} (hs:s.size=n) {g j:Nat} (hj:n≤j):(s++Array.replicate g false).getD j false=false:=by
 have h1 : ¬j<s.size:=by omega
 simp only [Array.getD_eq_getD_getElem?,Array.getElem?_append,h1,if_false,Array.getElem?_replicate]
 split <;> rfl
theorem back_of {j:Nat} {o:Oper} (hb:backB md l n=true) (hj:j<n) (ho:l.toArray[j]? = some o) :
 (∀ e∈o.after,Region.binds md e=true→e.on<j) ∧ ∀ g,o.guard=some g→g.1<j:=by
 have h:=List.all_eq_true.1 hb j (List.mem_range.2 hj)
 have ho':l[j]? = some o:=by simpa using ho
 simp only [ho',Bool.and_eq_true,Array.all_eq_true'] at h
 refine ⟨fun e he hbi=>?_,fun g hg=>?_⟩
 · have:=h.1 e he
   simpa [hbi] using this
 · have:=h.2
   rw [hg] at this
   simpa using this
theorem ready_head {s:Array Bool} (hs:s.size=n) {g i:Nat} (hi:i<n) (hb:backB md l n=true) (h:i∈Region.ready md l.toArray (s++Array.replicate g false)):i∈Region.ready md (l.take n).toArray s:=by
 obtain ⟨h1,o,ho,h2⟩:=mem_ready.1 h
 rw [app_get hs hi] at h1
 refine mem_ready.2 ⟨h1,o,by rw [take_get hi];exact ho,fun e he hbi=>?_⟩
 have h3:=(back_of hb hi ho).1 e he hbi
 have:=h2 e he hbi
 rwa [app_get hs (by omega)] at this
theorem ready_not_tail {s:Array Bool} (hs:s.size=n) {g i k:Nat} (hk:k<n) (hun:s.getD k false=false) (ht:tailB md l n=true) (h:i∈Region.ready md l.toArray (s++Array.replicate g false)):i<n:=by
 obtain ⟨h1,o,ho,h2⟩:=mem_ready.1 h
 rcases Nat.lt_or_ge i n with hlt | hge
 · exact hlt
 · exfalso
   have hil:i<l.length:=by have:=(Array.getElem?_eq_some_iff.1 ho).1;simpa using this
   simp only [tailB,Bool.and_eq_true] at ht
   by_cases hin:i=n
   · subst hin
     have h3:=List.all_eq_true.1 ht.1 k (List.mem_range.2 hk)
     obtain ⟨o',ho',e,he,hbi,hon⟩:=Region.waitsFor_spec h3
     obtain rfl:o'=o:=Option.some.inj (ho'.symm.trans ho)
     have:=h2 e he hbi
     rw [hon,app_get hs hk,hun] at this
     cases this
   · have h3:=List.all_eq_true.1 ht.2 i (List.mem_range.2 hil)
     simp only [Bool.or_eq_true,decide_eq_true_eq] at h3
     rcases h3 with h3 | h3
     · omega
     · obtain ⟨o',ho',e,he,hbi,hon⟩:=Region.waitsFor_spec h3
       obtain rfl:o'=o:=Option.some.inj (ho'.symm.trans ho)
       have:=h2 e he hbi
       rw [hon,app_tail hs (by omega)] at this
       cases this
theorem ready_some {s:Array Bool} (hs:s.size=n) (hn:n≤l.length) {g:Nat} (hb:backB md l n=true) : ∀ (d k:Nat),k<d→k<n→s.getD k false=false → ∃ i,i∈Region.ready md l.toArray (s++Array.replicate g false)
 | 0,_,h,_,_=>by omega
 | d + 1, k, hd, hk, hun => by
   obtain ⟨o,ho⟩ : ∃ o,l.toArray[k]? = some o:=⟨_,Array.getElem?_eq_getElem (by simp;omega)⟩
   by_cases hall : ∀ e∈o.after,Region.binds md e=true→s.getD e.on false=true
   · refine ⟨k,mem_ready.2 ⟨?_,o,ho,fun e he hbi=>?_⟩⟩
     · rw [app_get hs hk];exact getD_in (by omega) hun
     · have:=(back_of hb hk ho).1 e he hbi
       rw [app_get hs (by omega)];exact hall e he hbi
   · have ⟨e,he,hbi,hne⟩ : ∃ e,e∈o.after∧Region.binds md e=true∧s.getD e.on false=false:=by
      refine Classical.byContradiction fun hno=>hall fun e he hbi=>?_
      cases hx:s.getD e.on false with
      | true=>rfl
      | false=>exact absurd ⟨e,he,hbi,hx⟩ hno
     have:=(back_of hb hk ho).1 e he hbi
     exact ready_some hs hn hb d e.on (by omega) (by omega) hne
theorem wanted_head {j:Nat} {o:Oper} {tmps:Array Value} (hb:backB md l n=true) (hj:j<n) (ho:l.toArray[j]? = some o) :
 Region.wanted o (yielded (l.take n).toArray tmps)=Region.wanted o (yielded l.toArray tmps):=by
 have hg:=(back_of hb hj ho).2
 unfold Region.wanted
 cases hgd:o.guard with
 | none=>rfl
 | some g =>
   have:=hg g hgd
   have hy:yielded (l.take n).toArray tmps g.1=yielded l.toArray tmps g.1:=by unfold yielded;rw [take_get (by omega)]
   obtain ⟨g1,g2⟩:=g
   simp only at hy ⊢
   rw [hy]
def unl (s:Array Bool):Nat:=s.toList.count false
theorem unl_set {s:Array Bool} {i:Nat} (hi:i<s.size) (h:s.getD i true=false):unl (s.setIfInBounds i true)+1=unl s:=by
 unfold unl
 have hx:s[i]=false:=by simpa [hi] using h
 have hmem:false∈s.toList:=by rw [←hx];exact Array.getElem_mem_toList hi
 have hpos:=List.count_pos_iff.2 hmem
 rw [Array.toList_setIfInBounds,List.count_set (by simpa using hi),Array.getElem_toList,hx]
 simp only [beq_self_eq_true,if_true]
 rw [if_neg (by decide)]
 omega
theorem unl_zero {s:Array Bool} (h:unl s=0):s=Array.replicate s.size true:=by
 apply Array.ext
 · simp
 · intro i h1 h2
   simp only [Array.getElem_replicate]
   cases hx:s[i] with
   | true=>rfl
   | false =>
     have:false∈s.toList:=by rw [←hx];exact Array.getElem_mem_toList h1
     have:=List.count_pos_iff.2 this
     unfold unl at h;omega
theorem unl_pos {s:Array Bool} (h:0<unl s) : ∃ k,k<s.size∧s.getD k false=false:=by
 have:=List.count_pos_iff.1 h
 obtain ⟨k,hk,hx⟩:=List.getElem_of_mem this
 refine ⟨k,by simpa using hk,?_⟩
 have hk':k<s.size:=by simpa using hk
 have:s[k]=false:=by simpa using hx
 simp [hk',this]
theorem app_set {s:Array Bool} {g i:Nat} (hi:i<s.size):(s++Array.replicate g false).setIfInBounds i true=s.setIfInBounds i true++Array.replicate g false:=by
 apply Array.ext_getElem?
 intro j
 simp only [Array.getElem?_setIfInBounds,Array.getElem?_append,Array.size_setIfInBounds,Array.size_append,Array.size_replicate]
 by_cases e:i=j
 · subst e;simp [hi];omega
 · simp [e]
theorem wpAny_of_headQ {Qa:Act→Prop} {Q:Exit→Act→World→Prop} {g:Nat} (hn:n≤l.length) (hb:backB md l n=true) (ht:tailB md l n=true)
 (hend : ∀ a w,C w→Qa a→wpAny P md l.toArray Q g (Array.replicate n true++Array.replicate g false) a w) :
 ∀ (f : Nat) (s : Array Bool) (a : Act) (w : World), s.size = n → unl s = f → C w → wpAnyQ P md (l.take n).toArray C Qa f s a →
   wpAny P md l.toArray Q (f+g) (s++Array.replicate g false) a w
 | 0, s, a, w, hs, hu, hw, h => by
   rw [Nat.zero_add,unl_zero hu,hs]
   exact hend a w hw h.2
 | f + 1, s, a, w, hs, hu, hw, h => by
   obtain ⟨k,hk,hun⟩:=unl_pos (s:=s) (by omega)
   rw [show f+1+g=(f+g)+1 by omega]
   refine ⟨fun h0=>?_,fun i hi=>?_⟩
   · obtain ⟨i,hi⟩:=ready_some (g:=g) hs hn hb (k+1) k (by omega) (by omega) hun
     rw [h0] at hi;cases hi
   · have hin:=ready_not_tail hs (by omega:k<n) hun ht hi
     have hr:=ready_head hs hin hb hi
     have hq:=h.2 i hr
     obtain ⟨hiu,o,ho,_⟩:=mem_ready.1 hr
     have ho':l.toArray[i]? = some o:=by rw [←take_get hin];exact ho
     have step : ∀ a' w',C w'→wpAnyQ P md (l.take n).toArray C Qa f (s.setIfInBounds i true) a'→wpAny P md l.toArray Q (f+g) ((s++Array.replicate g false).setIfInBounds i true) a' w':=by
      intro a' w' hw' h'
      rw [app_set (by omega)]
      refine wpAny_of_headQ hn hb ht hend f _ a' w' (by simpa using hs) ?_ hw' h'
      have:=unl_set (s:=s) (by omega) hiu
      omega
     have hq':qOp P l.toArray C i (wpAnyQ P md (l.take n).toArray C Qa f (s.setIfInBounds i true)) a:=by
      unfold qOp at hq ⊢
      simp only [ho] at hq
      simp only [ho']
      rwa [wanted_head hb hin ho'] at hq
     exact wpOp_of_qOp hw step hq'
theorem wp_region_head {id:Nat} {Q:Exit→Act→World→Prop} {a:Act} {w:World} (n:Nat) (hm:P.follows .mixedOrders=true) (hB:headB l n=true) (hC:C { w with drawn:=w.drawn+1 })
 (h:wpQuiet P (l.take n).toArray C (fun a' => ∀ w',C w'→wpList P l.toArray Q (l.drop n) a' w') (l.take n) a):(Code.region id l.toArray true).wp P Q a w:=by
 simp only [headB,Bool.and_eq_true,decide_eq_true_eq] at hB
 obtain ⟨⟨⟨⟨hn,hb⟩,ht⟩,hlex⟩,hseq⟩:=hB
 simp only [Region.lexB,Bool.and_eq_true] at hlex
 refine wp_region_any hm ?_
 have hsz:(l.take n).toArray.size=n:=by simp;omega
 have hq:=wpAnyQ_lex (P:=P) (C:=C) (md:=.any) hlex.1 (l.take n) 0 (Array.replicate n false) a (by simp) (by have:=hlex.2;rw [hsz] at this;simpa [show (l.take n).length=n by simp;omega] using this) h
 rw [show (l.take n).length=n by simp;omega] at hq
 have:=wpAny_of_headQ (g:=l.length - n) (Q:=Q) (md:=.any) (by omega) hb ht (fun a w hw hQa=>by
  have:=wpAny_of_seq (P:=P) (md:=.any) (ops:=l.toArray) (Q':=Q) (l.drop n) n (Array.replicate n true++Array.replicate (l.length - n) false) a w (fun j=>by simp [List.getElem?_drop]) (by simpa using hseq) (hQa w hw)
  simpa using this) n (Array.replicate n false) a _ (by simp) (by simp [unl]) hC hq
 have e:Array.replicate n false++Array.replicate (l.length - n) false=Array.replicate l.toArray.size false:=by
  rw [Array.replicate_append_replicate];congr 1;simp;omega
 rw [e,show n+(l.length - n)=l.toArray.size by simp;omega] at this
 exact this
theorem wp_region_head_below {id:Nat} {Q:Exit→Act→World→Prop} {a:Act} {w:World} (n:Nat) (hm:P.follows .mixedOrders=true) (hB:headB l n=true)
 (h:wpQuiet P (l.take n).toArray (fun w' => ∃ p:Regrown,w'=grow (redrawn w p.d) p.os) (fun a' => ∀ w',(∃ p:Regrown,w'=grow (redrawn w p.d) p.os)→wpList P l.toArray Q (l.drop n) a' w') (l.take n) a) :
 (Code.region id l.toArray true).wp P Q a w :=
 wp_region_head (C:=fun w' => ∃ p:Regrown,w'=grow (redrawn w p.d) p.os) n hm hB ⟨⟨w.drawn+1,#[]⟩,by rw [grow_empty];rfl⟩ h
end
end Go.Proofs.Ytajhkncolbgkbaa
end
section
namespace Go.Proofs.Ytajhkncolbgkbaa
open Go.RowKit Go.Sort Go.Maps
open Oct
def Leans (ts:List Tr) (t:Tr):Prop := ∀ d ch,t = .node d ch → ∀ i,ch i∈ts
structure Bytes (t:Tr):Prop where
 bricks : ∀ l,t = .brick l→l.length=64 ∧ ∀ x∈l,0≤x∧x≤255
 unis : ∀ c,t = .uni c→0≤c∧c≤255
 nodes : ∀ d ch,t = .node d ch→d≤255
theorem Bytes.uni {c:Int} (h:0≤c∧c≤255):Bytes (.uni c):=⟨fun l e=>(by cases e),fun c' e=>(by injection e with e;exact e ▸ h),fun d ch e=>(by cases e)⟩
theorem Bytes.brick {l:List Int} (h:l.length=64 ∧ ∀ x∈l,0≤x∧x≤255):Bytes (.brick l):=⟨fun l' e=>(by injection e with e;exact e ▸ h),fun c e=>(by cases e),fun d ch e=>(by cases e)⟩
theorem Bytes.node {d:Nat} (h:d≤255) (ch:Fin 8→Tr):Bytes (.node d ch):=⟨fun l e=>(by cases e),fun c e=>(by cases e),fun d' ch' e=>(by injection e with e _;exact e ▸ h)⟩
theorem strOfNums_inj : ∀ {l l':List Int},(∀ x∈l,0≤x∧x≤255)→(∀ x∈l',0≤x∧x≤255)→strOfNums l=strOfNums l'→l=l':=by
 intro l l' h h' e
 have e1:l.map (fun n=>UInt8.ofNat n.toNat)=l'.map (fun n=>UInt8.ofNat n.toNat):=by
  rw [←strOfNums_data,←strOfNums_data,e]
 clear e
 induction l generalizing l' with
 | nil => cases l' with
   | nil=>rfl
   | cons y r=>simp at e1
 | cons x l ih => cases l' with
   | nil=>simp at e1
   | cons y r =>
     simp only [List.map_cons,List.cons.injEq] at e1
     have hx:=h x (by simp)
     have hy:=h' y (by simp)
     have e2:=congrArg UInt8.toNat e1.1
     simp only [UInt8.toNat_ofNat'] at e2
     have:x=y:=by omega
     rw [this,ih (fun z hz=>h z (by simp [hz])) (fun z hz=>h' z (by simp [hz])) e1.2]
end Go.Proofs.Ytajhkncolbgkbaa
end
section
namespace Go.Proofs.Ytajhkncolbgkbaa
open Go.RowKit Go.Sort Go.Maps
open Oct
structure Good (ts:List Tr):Prop where
 closed:Tr.Closed ts
 bytes : ∀ t∈ts,Bytes t
theorem Good.leans {ts:List Tr} (h:Good ts) {t:Tr} (ht:t∈ts):Leans ts t:=fun d ch e i=>h.closed.2 d ch (e ▸ ht) i
theorem Leans.later {ts ts':List Tr} (hp:ts <+: ts') {t:Tr} (h:Leans ts t):Leans ts' t:=fun d ch e i=>hp.subset (h d ch e i)
theorem Good.add {ts:List Tr} (hG:Good ts) {t:Tr} (ht:t ∉ ts) (hl:Leans ts t) (hb:Bytes t):Good (ts++[t]):=by
 refine ⟨⟨?_,fun d ch h i=>?_⟩,fun x h=>?_⟩
 · rw [List.nodup_append]
   exact ⟨hG.closed.1,by simp,fun a ha b hb' e=>by rw [List.mem_singleton.1 hb'] at e;exact ht (e ▸ ha)⟩
 · rcases List.mem_append.1 h with h | h
   · exact List.mem_append_left _ (hG.closed.2 d ch h i)
   · exact List.mem_append_left _ (hl d ch (List.mem_singleton.1 h).symm i)
 · rcases List.mem_append.1 h with h | h
   · exact hG.bytes _ h
   · rw [List.mem_singleton.1 h];exact hb
theorem grown_of_below {w w':World} (hb:Below w.heap.size w w'):w.grownBy w' none:=⟨hb.os,hb.tape,hb.output,hb.size,fun k hk _=>hb.block k hk⟩
structure Keeps (Far:Nat→Prop) (w w':World):Prop where
 os:w'.os=w.os
 tape:w'.tape=w.tape
 output:w'.output=w.output
 size:w.heap.size≤w'.heap.size
 block : ∀ k,Far k→k<w.heap.size→w'.heap[k]? = w.heap[k]?
theorem Keeps.refl (Far:Nat→Prop) (w:World):Keeps Far w w:=⟨rfl,rfl,rfl,Nat.le_refl _,fun _ _ _=>rfl⟩
theorem Keeps.trans {Far:Nat→Prop} {a b c:World} (h:Keeps Far a b) (h':Keeps Far b c):Keeps Far a c :=
 ⟨h'.os.trans h.os,h'.tape.trans h.tape,h'.output.trans h.output,Nat.le_trans h.size h'.size,fun k hk hl=>(h'.block k hk (Nat.lt_of_lt_of_le hl h.size)).trans (h.block k hk hl)⟩
theorem Keeps.below {Far:Nat→Prop} {a b:World} (h:Below a.heap.size a b):Keeps Far a b:=⟨h.os,h.tape,h.output,h.size,fun k _ hl=>h.block k hl⟩
theorem Keeps.grown {Far:Nat→Prop} {a b:World} {row:Option Nat} (h:a.grownBy b row) (hr : ∀ g,row=some g → ¬Far g):Keeps Far a b :=
 ⟨h.os,h.tape,h.output,h.size,fun k hk hl=>h.block k hl (fun e=>hr k e.symm hk)⟩
theorem Bk.far {w w':World} {Far:Nat→Prop} {b:Nat} {vs:Array Value} {t:TypeId} (h:Bk w b vs t) (hk:Keeps Far w w') (hf:Far b):Bk w' b vs t:=(hk.block b hf h.lt).trans h
end Go.Proofs.Ytajhkncolbgkbaa
end
section
namespace Go.Proofs.Ytajhkncolbgkbaa
open Go.Sort Go.RowKit
@[go_sem] def Oper.calmUpon (P : Program) (w : World) (v : Value) : Result Next → Prop
  | .ok (.value u) w'=>w'=w∧u=v
  | .ok .skip w'=>w'=w∧v=undef
  | .ok (.enter f args) w'=>w'=w∧Calls P f args w (fun e w''=>e = .returned v∧Below w.heap.size w w'')
  | _=>False
def puts (L:List (Option Tmp × Value)) (a:Act):Act:=L.foldl (fun a p=>a.put p.1 p.2) a
theorem put_size (a:Act) (d:Option Tmp) (v:Value):(a.put d v).tmps.size=a.tmps.size:=by cases d <;> simp [Act.put]
theorem put_defers (a:Act) (d:Option Tmp) (v:Value):(a.put d v).defers=a.defers:=by cases d <;> simp [Act.put]
theorem put_same {a:Act} {d:Tmp} (v:Value) (h:d<a.tmps.size):(a.put (some d) v).tmps[d]? = some v:=by simp [Act.put,h]
theorem put_other {a:Act} {d:Option Tmp} {x:Tmp} (v:Value) (h:d ≠ some x):(a.put d v).tmps[x]? = a.tmps[x]? := by
 cases d with
 | none=>rfl
 | some d=>simp only [Act.put];rw [Array.getElem?_setIfInBounds_ne (fun e=>h (by rw [e]))]
theorem puts_size : ∀ (L:List (Option Tmp × Value)) (a:Act),(puts L a).tmps.size=a.tmps.size∧(puts L a).defers=a.defers
 | [],_=>⟨rfl,rfl⟩
 | p :: L, a => by
   obtain ⟨h1,h2⟩:=puts_size L (a.put p.1 p.2)
   rw [put_size] at h1;rw [put_defers] at h2
   exact ⟨h1,h2⟩
theorem puts_out : ∀ (L:List (Option Tmp × Value)) (a:Act) (x:Tmp),(∀ p∈L,p.1 ≠ some x)→(puts L a).tmps[x]? = a.tmps[x]?
 | [],_,_,_=>rfl
 | p :: L, a, x, h => by
   show (puts L (a.put p.1 p.2)).tmps[x]? = _
   rw [puts_out L _ x (fun q hq=>h q (List.mem_cons_of_mem _ hq)),put_other _ (h p (by simp))]
theorem puts_in : ∀ (L:List (Option Tmp × Value)) (a:Act) (x:Tmp) (v:Value),x<a.tmps.size→L.Pairwise (fun p q => ∀ d,p.1=some d→q.1 ≠ some d)→(some x,v)∈L→(puts L a).tmps[x]? = some v
 | [],_,_,_,_,_,h=>by simp at h
 | p :: L, a, x, v, hx, hp, h => by
   show (puts L (a.put p.1 p.2)).tmps[x]? = _
   rw [List.pairwise_cons] at hp
   rcases List.mem_cons.1 h with rfl | h
   · rw [puts_out L _ x (fun q hq=>hp.1 q hq x rfl),put_same _ hx]
   · exact puts_in L _ x v (by rw [put_size];exact hx) hp.2 h
theorem act_ext {a b:Act} (h1:a.defers=b.defers) (h2 : ∀ x:Nat,a.tmps[x]? = b.tmps[x]?):a=b:=by
 obtain ⟨at',ad⟩:=a
 obtain ⟨bt,bd⟩:=b
 simp only at h1 h2
 rw [h1,Array.ext_getElem? h2]
def dstAt (l:List Oper) (i:Nat):Option Tmp:=(l[i]?).bind (·.dst)
section
variable {P:Program} {l:List Oper} {n k:Nat} {sl u:Nat→Tmp} {T:Nat→TypeId} {z vs:Nat→Array Value} {W:World} {a:Act} {hv:List Value}
theorem getD_set_self {s:Array Bool} {i:Nat} (h:i<s.size):(s.setIfInBounds i true).getD i false=true:=by simp [Array.getD_eq_getD_getElem?,h]
theorem waits_listed {s:Array Bool} {i j:Nat} (h:Region.waitsFor .any l.toArray i j=true) (hr:i∈Region.ready .any l.toArray s):s.getD j false=true:=by
 obtain ⟨o,ho,e,he,hb,hon⟩:=Region.waitsFor_spec h
 obtain ⟨_,o',ho',hall⟩:=mem_ready.1 hr
 obtain rfl:o=o':=Option.some.inj (ho.symm.trans ho')
 have:=hall e he hb
 rwa [hon] at this
theorem eval_tmp {a b:Act} {d:Tmp} (h:a.tmps[d]? = b.tmps[d]?):a.eval (.tmp d)=b.eval (.tmp d):=by
 simp only [Act.eval,Array.getD_eq_getD_getElem?,h]
def dstB (l:List Oper) (m:Nat):Bool:=l.all fun o=>match o.dst with | some d=>decide (d<m) | none=>true
theorem dstB_spec {m:Nat} (h:dstB l m=true) {i d:Nat} (hd:dstAt l i=some d):d<m:=by
 unfold dstAt at hd
 cases ho:l[i]? with
 | none=>simp [ho] at hd
 | some o =>
   simp only [ho,Option.bind_some] at hd
   have:=List.all_eq_true.1 h o (List.mem_of_getElem? ho)
   simpa [hd] using this
end
end Go.Proofs.Ytajhkncolbgkbaa
end
