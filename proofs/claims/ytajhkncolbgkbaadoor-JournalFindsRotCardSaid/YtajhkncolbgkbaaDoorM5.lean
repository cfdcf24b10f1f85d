/- Tree, Store, Store2, MakeN, Bit, Out, Inn, Sl, Brk, Pla, Paste, Lines, Geo, Crop, Bld, Bld2, Prt, Pcb, Pby, Pcr, Pbn: joined by program, for one claim. -/
import Derived.Test.YtajhkncolbgkbaaDoorM4
import Derived.Test.YtajhkncolbgkbaaDoorM1
import Derived.Deep.Cut
import Derived.Maps.AppendAt
import Derived.Deep.RegionLaw
import Derived.Deep.RegionHeld3
import Derived.Deep.DrawnRows
import Derived.Deep.AppendLies
import Derived.Laws.BitsLemmas
import Derived.IntWalk
import Derived.Test.YtajhkncolbgkbaaDoorProg
import Derived.WalkKit
import Derived.WalkLawsBesides
import Derived.WalkSpells
import Derived.Laws.StructEq
import Derived.ChangeKeysEq
import Derived.Deep.QuietTactic
import Derived.BigQuiet
import Derived.Deep.LoopGhost
import Derived.Test.YtajhkncolbgkbaaDoorM2
import Derived.Laws.IdiomStrings
import Derived.Laws.CopyOwn
import Derived.Laws.BitsAllLaws
import Derived.Lib.SliceRun
import Derived.Laws.EntriesVeiled
set_option linter.unusedVariables false
set_option linter.unusedSimpArgs false
section
namespace Go.Proofs.YtajhkncolbgkbaaDoor
namespace Oct
inductive Tr where
 | uni (c:Int)
 | brick (l:List Int)
 | node (d:Nat) (ch:Fin 8→Tr)
namespace Tr
open Classical in
noncomputable def mkInner (d:Nat) (ch:Fin 8→Tr):Tr:=if (∃ c,ch 0 = .uni c) ∧ ∀ i,ch i=ch 0 then ch 0 else .node d ch
def mkBrick (l:List Int):Tr:=if ∀ x∈l,x=l.headD 0 then .uni (l.headD 0) else .brick l
def cor (a:Pt) (n:Nat) (i:Nat):Pt:=⟨a.x+(i % 2:Nat) * 2 ^ (n+2),a.y+(i / 2 % 2:Nat) * 2 ^ (n+2),a.z+(i / 4:Nat) * 2 ^ (n+2)⟩
def cellAt (a:Pt) (k:Nat):Pt:=⟨a.x+(k % 4:Nat),a.y+(k / 4 % 4:Nat),a.z+(k / 16:Nat)⟩
def cells:Tr→List Int
 | .uni c=>List.replicate 64 c
 | .brick l=>l
 | .node _ _=>[]
noncomputable def can (f:Pt→Int):Nat→Pt→Tr
 | 0,a=>mkBrick ((List.range 64).map fun k=>f (cellAt a k))
 | n+1,a=>mkInner (n+3) fun i=>can f n (cor a n i.val)
theorem getD_el {l:List Int} {i:Nat} (h:i<l.length):l.getD i 0=l[i]:=by simp [List.getD,h]
def upd (f:Pt→Int) (p:Pt) (c:Int):Pt→Int:=fun q=>if q=p then c else f q
open Classical in
noncomputable def add:Tr→List Tr→List Tr
 | .node d ch,ts=>if .node d ch∈ts then ts else (List.finRange 8).foldl (fun a i=>add (ch i) a) ts++[.node d ch]
 | .uni c,ts=>if .uni c∈ts then ts else ts++[.uni c]
 | .brick l,ts=>if .brick l∈ts then ts else ts++[.brick l]
noncomputable def addK (ch:Fin 8→Tr) (k:Nat) (ts:List Tr):List Tr:=((List.finRange 8).take k).foldl (fun a i=>add (ch i) a) ts
theorem addK_zero (ch:Fin 8→Tr) (ts:List Tr):addK ch 0 ts=ts:=rfl
theorem addK_succ (ch:Fin 8→Tr) {k:Nat} (hk:k<8) (ts:List Tr):addK ch (k+1) ts=add (ch ⟨k,hk⟩) (addK ch k ts):=by
 unfold addK
 rw [List.take_succ_eq_append_getElem (by simpa using hk),List.foldl_append]
 simp
theorem addK_all (ch:Fin 8→Tr) (ts:List Tr):addK ch 8 ts=(List.finRange 8).foldl (fun a i=>add (ch i) a) ts:=by
 unfold addK;rw [List.take_of_length_le (by simp)]
open Classical in
theorem add_node (d:Nat) (ch:Fin 8→Tr) (ts:List Tr):add (.node d ch) ts=if .node d ch∈ts then ts else addK ch 8 ts++[.node d ch]:=by
 rw [addK_all,add]
open Classical in
noncomputable def ins (t:Tr) (ts:List Tr):List Tr:=if t∈ts then ts else ts++[t]
theorem add_uni (c:Int) (ts:List Tr):add (.uni c) ts=ins (.uni c) ts:=by rw [add,ins]
theorem add_brick (l:List Int) (ts:List Tr):add (.brick l) ts=ins (.brick l) ts:=by rw [add,ins]
def Closed (ts:List Tr):Prop:=ts.Nodup ∧ ∀ d ch,Tr.node d ch∈ts → ∀ i,ch i∈ts
theorem Closed.nil:Closed []:=⟨by simp,fun d ch h=>by simp at h⟩
theorem addK_ind {P:List Tr→Prop} {ch:Fin 8→Tr} (ih : ∀ i ts,P ts→P (add (ch i) ts)) : ∀ k,k≤8 → ∀ ts,P ts→P (addK ch k ts)
 | 0,_,ts,h=>by rw [addK_zero];exact h
 | k+1,hk,ts,h=>by rw [addK_succ ch (by omega)];exact ih _ _ (addK_ind ih k (by omega) ts h)
theorem ins_of_mem {t:Tr} {ts:List Tr} (h:t∈ts):ins t ts=ts:=if_pos h
theorem ins_of_not {t:Tr} {ts:List Tr} (h:t ∉ ts):ins t ts=ts++[t]:=if_neg h
theorem ins_prefix (t:Tr) (ts:List Tr):ts <+: ins t ts:=by
 by_cases h:t∈ts
 · rw [ins_of_mem h];exact List.prefix_refl _
 · rw [ins_of_not h];exact List.prefix_append _ _
theorem mem_ins (t:Tr) (ts:List Tr):t∈ins t ts:=by
 by_cases h:t∈ts
 · rw [ins_of_mem h];exact h
 · rw [ins_of_not h];simp
theorem add_prefix : ∀ (t:Tr) (ts:List Tr),ts <+: add t ts:=by
 intro t
 induction t with
 | uni c=>intro ts;rw [add_uni];exact ins_prefix _ _
 | brick l=>intro ts;rw [add_brick];exact ins_prefix _ _
 | node d ch ih =>
   intro ts
   rw [add_node]
   split
   · exact List.prefix_refl _
   · exact (addK_ind (P:=fun a=>ts <+: a) (fun i a h=>h.trans (ih i a)) 8 (Nat.le_refl _) ts (List.prefix_refl _)).trans (List.prefix_append _ _)
theorem mem_add (t:Tr) (ts:List Tr):t∈add t ts:=by
 cases t with
 | uni c=>rw [add_uni];exact mem_ins _ _
 | brick l=>rw [add_brick];exact mem_ins _ _
 | node d ch =>
   rw [add_node]
   split
   · assumption
   · simp
theorem add_same : ∀ (t:Tr) (ts:List Tr),t∈ts→add t ts=ts:=by
 intro t ts h
 cases t with
 | uni c=>rw [add_uni,ins_of_mem h]
 | brick l=>rw [add_brick,ins_of_mem h]
 | node d ch=>rw [add_node,if_pos h]
theorem addK_mem (ch:Fin 8→Tr) (ts:List Tr) : ∀ k,k≤8 → ∀ i:Fin 8,i.val<k→ch i∈addK ch k ts
 | 0,_,i,h=>by omega
 | k + 1, hk, i, h => by
   rw [addK_succ ch (by omega)]
   by_cases e:i.val=k
   · rw [show i=⟨k,by omega⟩ from Fin.ext e]
     exact mem_add _ _
   · exact (add_prefix _ _).subset (addK_mem ch ts k (by omega) i (by omega))
def sz:Tr→Nat
 | .uni _=>1
 | .brick _=>1
 | .node _ ch=>1+(List.ofFn fun i=>sz (ch i)).sum
theorem le_sum {l:List Nat} {x:Nat} (h:x∈l):x≤l.sum:=by
 induction l with
 | nil=>simp at h
 | cons y l ih =>
   simp only [List.sum_cons]
   rcases List.mem_cons.1 h with rfl | h
   · omega
   · have:=ih h;omega
theorem sz_kid (d:Nat) (ch:Fin 8→Tr) (i:Fin 8):sz (ch i)<sz (.node d ch):=by
 have:sz (ch i)≤(List.ofFn fun i=>sz (ch i)).sum:=le_sum (List.mem_ofFn.2 ⟨i,rfl⟩)
 simp only [sz];omega
theorem of_mem_ins {x t:Tr} {ts:List Tr} (h:x∈ins t ts):x∈ts∨x=t:=by
 by_cases h':t∈ts
 · rw [ins_of_mem h'] at h;exact .inl h
 · rw [ins_of_not h'] at h;simpa using h
theorem of_mem_add : ∀ (t:Tr) (ts:List Tr) (x:Tr),x∈add t ts→x∈ts∨x=t∨sz x<sz t:=by
 intro t
 induction t with
 | uni c=>intro ts x h;rw [add_uni] at h;rcases of_mem_ins h with h | h;exact .inl h;exact .inr (.inl h)
 | brick l=>intro ts x h;rw [add_brick] at h;rcases of_mem_ins h with h | h;exact .inl h;exact .inr (.inl h)
 | node d ch ih =>
   intro ts x h
   rw [add_node] at h
   split at h
   · exact .inl h
   · rcases List.mem_append.1 h with h | h
     · have:=addK_ind (P:=fun a => ∀ x∈a,x∈ts∨sz x<sz (.node d ch)) (fun i a ha x hx=>by
        rcases ih i a x hx with h | rfl | h
        · exact ha x h
        · exact .inr (sz_kid d ch i)
        · exact .inr (Nat.lt_trans h (sz_kid d ch i))) 8 (Nat.le_refl _) ts (fun x hx=>.inl hx) x h
       rcases this with h | h
       · exact .inl h
       · exact .inr (.inr h)
     · simp at h;exact .inr (.inl h)
theorem not_mem_kids {d:Nat} {ch:Fin 8→Tr} {ts:List Tr} (h : .node d ch ∉ ts) (k:Nat) (hk:k≤8) : .node d ch ∉ addK ch k ts:=by
 have:=addK_ind (P:=fun a=>Tr.node d ch ∉ a) (ch:=ch) (fun i a ha hx=>by
  rcases of_mem_add _ _ _ hx with h | h | h
  · exact ha h
  · have:=sz_kid d ch i;rw [←h] at this;omega
  · have:=sz_kid d ch i;omega) k hk ts h
 exact this
theorem Closed.ins {t:Tr} {ts:List Tr} (h:Closed ts) (hk : ∀ d ch,t = .node d ch → ∀ i,ch i∈ts):Closed (ins t ts):=by
 by_cases hm:t∈ts
 · rw [ins_of_mem hm];exact h
 · rw [ins_of_not hm]
   refine ⟨?_,fun d ch hc i=>?_⟩
   · rw [List.nodup_append]
     exact ⟨h.1,by simp,fun a ha b hb=>by simp at hb;subst hb;rintro rfl;exact hm ha⟩
   · rcases List.mem_append.1 hc with hc | hc
     · exact List.mem_append.2 (.inl (h.2 d ch hc i))
     · simp at hc;exact List.mem_append.2 (.inl (hk d ch hc.symm i))
theorem node_add {d:Nat} {ch:Fin 8→Tr} {ts:List Tr} (h:Closed ts):add (.node d ch) ts=Tr.ins (.node d ch) (addK ch 8 ts):=by
 rw [add_node]
 split
 · rename_i hm
   have:addK ch 8 ts=ts:=addK_ind (P:=fun a=>a=ts) (fun i a ha=>by subst ha;exact add_same _ _ (h.2 d ch hm i)) 8 (Nat.le_refl _) ts rfl
   rw [this,ins_of_mem hm]
 · rename_i hm
   rw [ins_of_not (not_mem_kids hm 8 (Nat.le_refl _))]
theorem Closed.add : ∀ (t:Tr) {ts:List Tr},Closed ts→Closed (add t ts):=by
 intro t
 induction t with
 | uni c=>intro ts h;rw [add_uni];exact h.ins (fun d ch e=>by cases e)
 | brick l=>intro ts h;rw [add_brick];exact h.ins (fun d ch e=>by cases e)
 | node d ch ih =>
   intro ts h
   rw [node_add h]
   exact (addK_ind (P:=Closed) (fun i a ha=>ih i ha) 8 (Nat.le_refl _) ts h).ins (fun d' ch' e i=>by
    injection e with e1 e2
    subst e2
    exact addK_mem _ ts 8 (Nat.le_refl _) i i.isLt)
theorem Closed.addK {ch:Fin 8→Tr} {ts:List Tr} (h:Closed ts) (k:Nat) (hk:k≤8):Closed (addK ch k ts):=addK_ind (P:=Closed) (fun _i _a ha=>Closed.add _ ha) k hk ts h
open Classical in
theorem inner_add {d:Nat} {ch:Fin 8→Tr} {ts:List Tr} (h:Closed ts) :
 add (mkInner d ch) ts=if mkInner d ch=ch 0∧(∃ c,ch 0 = .uni c) then addK ch 8 ts else Tr.ins (.node d ch) (addK ch 8 ts):=by
 unfold mkInner
 split
 · rename_i hc
   obtain ⟨⟨c,hc⟩,hall⟩:=hc
   rw [if_pos ⟨rfl,c,hc⟩]
   have : ∀ k,k≤7→Tr.addK ch (k+1) ts=Tr.add (ch 0) ts:=by
    intro k
    induction k with
    | zero=>intro _;rw [addK_succ ch (by omega),addK_zero];rfl
    | succ k ih =>
      intro hk
      rw [addK_succ ch (by omega),ih (by omega),hall ⟨k+1,by omega⟩]
      exact add_same _ _ (mem_add _ _)
   exact (this 7 (Nat.le_refl _)).symm
 · rename_i hc
   rw [if_neg,node_add h]
   rintro ⟨e1,c,e2⟩
   rw [e2] at e1;cases e1
def enc:Tr→List Int
 | .uni c=>[117,c]
 | .brick l=>98::l
 | .node d ch=>110::(d:Int)::(List.ofFn fun i=>enc (ch i)).flatten
def WF:Tr→Prop
 | .uni c=>0≤c∧c≤255
 | .brick l=>l.length=64 ∧ ∀ x∈l,0≤x∧x≤255
 | .node d ch=>d≤255 ∧ ∀ i,WF (ch i)
end Tr
end Oct
end Go.Proofs.YtajhkncolbgkbaaDoor
end
section
namespace Go.Proofs.YtajhkncolbgkbaaDoor
open Go.RowKit Go.Sort Go.Maps
open Oct
def Leans (ts:List Tr) (t:Tr):Prop := ∀ d ch,t = .node d ch → ∀ i,ch i∈ts
structure Bytes (t:Tr):Prop where
 bricks : ∀ l,t = .brick l→l.length=64 ∧ ∀ x∈l,0≤x∧x≤255
 unis : ∀ c,t = .uni c→0≤c∧c≤255
 nodes : ∀ d ch,t = .node d ch→d≤255
theorem Bytes.uni {c:Int} (h:0≤c∧c≤255):Bytes (.uni c):=⟨fun l e=>(by cases e),fun c' e=>(by injection e with e;exact e ▸ h),fun d ch e=>(by cases e)⟩
theorem Bytes.brick {l:List Int} (h:l.length=64 ∧ ∀ x∈l,0≤x∧x≤255):Bytes (.brick l):=⟨fun l' e=>(by injection e with e;exact e ▸ h),fun c e=>(by cases e),fun d ch e=>(by cases e)⟩
theorem Bytes.node {d:Nat} (h:d≤255) (ch:Fin 8→Tr):Bytes (.node d ch):=⟨fun l e=>(by cases e),fun c e=>(by cases e),fun d' ch' e=>(by injection e with e _;exact e ▸ h)⟩
theorem strOfNums_inj : ∀ {l l':List Int},(∀ x∈l,0≤x∧x≤255)→(∀ x∈l',0≤x∧x≤255)→strOfNums l=strOfNums l'→l=l':=by
 intro l l' h h' e
 have e1:l.map (fun n=>UInt8.ofNat n.toNat)=l'.map (fun n=>UInt8.ofNat n.toNat):=by
  rw [←strOfNums_data,←strOfNums_data,e]
 clear e
 induction l generalizing l' with
 | nil => cases l' with
   | nil=>rfl
   | cons y r=>simp at e1
 | cons x l ih => cases l' with
   | nil=>simp at e1
   | cons y r =>
     simp only [List.map_cons,List.cons.injEq] at e1
     have hx:=h x (by simp)
     have hy:=h' y (by simp)
     have e2:=congrArg UInt8.toNat e1.1
     simp only [UInt8.toNat_ofNat'] at e2
     have:x=y:=by omega
     rw [this,ih (fun z hz=>h z (by simp [hz])) (fun z hz=>h' z (by simp [hz])) e1.2]
end Go.Proofs.YtajhkncolbgkbaaDoor
end
section
namespace Go.Proofs.YtajhkncolbgkbaaDoor
open Go.RowKit Go.Sort Go.Maps
open Oct
structure Good (ts:List Tr):Prop where
 closed:Tr.Closed ts
 bytes : ∀ t∈ts,Bytes t
theorem Good.leans {ts:List Tr} (h:Good ts) {t:Tr} (ht:t∈ts):Leans ts t:=fun d ch e i=>h.closed.2 d ch (e ▸ ht) i
theorem Leans.later {ts ts':List Tr} (hp:ts <+: ts') {t:Tr} (h:Leans ts t):Leans ts' t:=fun d ch e i=>hp.subset (h d ch e i)
theorem Good.add {ts:List Tr} (hG:Good ts) {t:Tr} (ht:t ∉ ts) (hl:Leans ts t) (hb:Bytes t):Good (ts++[t]):=by
 refine ⟨⟨?_,fun d ch h i=>?_⟩,fun x h=>?_⟩
 · rw [List.nodup_append]
   exact ⟨hG.closed.1,by simp,fun a ha b hb' e=>by rw [List.mem_singleton.1 hb'] at e;exact ht (e ▸ ha)⟩
 · rcases List.mem_append.1 h with h | h
   · exact List.mem_append_left _ (hG.closed.2 d ch h i)
   · exact List.mem_append_left _ (hl d ch (List.mem_singleton.1 h).symm i)
 · rcases List.mem_append.1 h with h | h
   · exact hG.bytes _ h
   · rw [List.mem_singleton.1 h];exact hb
theorem grown_of_below {w w':World} (hb:Below w.heap.size w w'):w.grownBy w' none:=⟨hb.os,hb.tape,hb.output,hb.size,fun k hk _=>hb.block k hk⟩
structure Keeps (Far:Nat→Prop) (w w':World):Prop where
 os:w'.os=w.os
 tape:w'.tape=w.tape
 output:w'.output=w.output
 size:w.heap.size≤w'.heap.size
 block : ∀ k,Far k→k<w.heap.size→w'.heap[k]? = w.heap[k]?
theorem Keeps.refl (Far:Nat→Prop) (w:World):Keeps Far w w:=⟨rfl,rfl,rfl,Nat.le_refl _,fun _ _ _=>rfl⟩
theorem Keeps.trans {Far:Nat→Prop} {a b c:World} (h:Keeps Far a b) (h':Keeps Far b c):Keeps Far a c :=
 ⟨h'.os.trans h.os,h'.tape.trans h.tape,h'.output.trans h.output,Nat.le_trans h.size h'.size,fun k hk hl=>(h'.block k hk (Nat.lt_of_lt_of_le hl h.size)).trans (h.block k hk hl)⟩
theorem Keeps.below {Far:Nat→Prop} {a b:World} (h:Below a.heap.size a b):Keeps Far a b:=⟨h.os,h.tape,h.output,h.size,fun k _ hl=>h.block k hl⟩
theorem Keeps.grown {Far:Nat→Prop} {a b:World} {row:Option Nat} (h:a.grownBy b row) (hr : ∀ g,row=some g → ¬Far g):Keeps Far a b :=
 ⟨h.os,h.tape,h.output,h.size,fun k hk hl=>h.block k hl (fun e=>hr k e.symm hk)⟩
theorem Bk.far {w w':World} {Far:Nat→Prop} {b:Nat} {vs:Array Value} {t:TypeId} (h:Bk w b vs t) (hk:Keeps Far w w') (hf:Far b):Bk w' b vs t:=(hk.block b hf h.lt).trans h
end Go.Proofs.YtajhkncolbgkbaaDoor
end
section
namespace Go.Proofs.YtajhkncolbgkbaaDoor
open Go.RowKit Go.Sort Go.Maps
open Oct
attribute [local go_sem ↓] Go.wp_at_zero Go.wp_at_succ
theorem Keeps.set {Far:Nat→Prop} {a b:World} (h:Keeps Far a b) (p:Addr) (v:Value) (hp : ¬Far p.block):Keeps Far a (b.setCell p v) :=
 h.trans ⟨rfl,rfl,rfl,by simp [World.setCell],fun k hk _=>heap_setCell_other b p k v (fun e=>hp (e ▸ hk))⟩
theorem grown_setCell (w:World) (p:Addr) (v:Value):w.grownBy (w.setCell p v) (some p.block) :=
 ⟨rfl,rfl,rfl,by simp [World.setCell],fun k _ hne=>heap_setCell_other w p k v (fun e=>hne (by rw [e]))⟩
end Go.Proofs.YtajhkncolbgkbaaDoor
end
section
namespace Go.Proofs.YtajhkncolbgkbaaDoor
open Go.RowKit
theorem wraps_i64 : ∀ n:Int,0≤n→n<2 ^ 62→IntKind.i64.wrap n=n:=fun n h0 h1=>by
 have:(2:Int) ^ 62=4611686018427387904:=by decide
 rw [IntKind.wrap_i64];omega
end Go.Proofs.YtajhkncolbgkbaaDoor
end
section
namespace Go.Proofs.YtajhkncolbgkbaaDoor
open Go.RowKit Go.Sort Go.Maps
open Oct
theorem Good.ins {ts:List Tr} (hG:Good ts) {t:Tr} (hl:Leans ts t) (hb:Bytes t):Good (Tr.ins t ts):=by
 by_cases h:t∈ts
 · rw [Tr.ins_of_mem h];exact hG
 · rw [Tr.ins_of_not h];exact hG.add h hl hb
theorem Good.uni {ts:List Tr} (hG:Good ts) {c:Int} (hc:0≤c∧c≤255):Good (Tr.add (.uni c) ts):=by
 rw [Tr.add_uni];exact hG.ins (fun d ch h=>by cases h) (Bytes.uni hc)
end Go.Proofs.YtajhkncolbgkbaaDoor
end
section
namespace Go.Proofs.YtajhkncolbgkbaaDoor
open Go.RowKit Go.Sort Go.Maps
open Oct
theorem addK_same {ch:Fin 8→Tr} {ts:List Tr} (h : ∀ i,ch i∈ts):Tr.addK ch 8 ts=ts:=Tr.addK_ind (P:=fun a=>a=ts) (fun i a ha=>by subst ha;exact Tr.add_same _ _ (h i)) 8 (Nat.le_refl _) ts rfl
theorem Good.inner {ts:List Tr} (hG:Good ts) {ch:Fin 8→Tr} (hch : ∀ i,ch i∈ts) {d:Nat} (hd:d≤255):Good (Tr.add (Tr.mkInner d ch) ts):=by
 rw [Tr.inner_add hG.closed,addK_same hch]
 split
 · exact hG
 · exact hG.ins (fun d' ch' h i=>by injection h with h1 h2;subst h2;exact hch i) (Bytes.node hd ch)
end Go.Proofs.YtajhkncolbgkbaaDoor
end
section
namespace Go.Proofs.YtajhkncolbgkbaaDoor
open Go.RowKit
namespace Pal
def cell (c:Int):Bool:=decide (0≤c) && decide (c≤255)
def brick (l:List Int):Bool:=decide (l.length=64) && l.all cell
end Pal
end Go.Proofs.YtajhkncolbgkbaaDoor
end
section
namespace Go.Proofs.YtajhkncolbgkbaaDoor
open Go.RowKit Go.Sort Go.Maps
open Oct
structure Top (xs:List Int) (m:Int):Prop where
 le : ∀ x∈xs,x≤m
 mem:m∈xs
structure Bot (xs:List Int) (m:Int):Prop where
 le : ∀ x∈xs,m≤x
 mem:m∈xs
theorem take_snoc_at {xs:List Int} {k:Nat} {x:Int} (h:xs[k]? = some x):xs.take (k+1)=xs.take k++[x]:=by
 rw [List.take_add_one,h];rfl
theorem Top.step {xs:List Int} {k:Nat} {m x:Int} (h:Top (xs.take k) m) (hx:xs[k]? = some x):Top (xs.take (k+1)) (max m x):=by
 rw [take_snoc_at hx]
 refine ⟨fun y hy=>?_,?_⟩
 · rcases List.mem_append.1 hy with hy | hy
   · have:=h.le y hy;omega
   · rw [List.mem_singleton.1 hy];omega
 · by_cases hm:x≤m
   · rw [show max m x=m by omega];exact List.mem_append_left _ h.mem
   · rw [show max m x=x by omega];simp
theorem Bot.step {xs:List Int} {k:Nat} {m x:Int} (h:Bot (xs.take k) m) (hx:xs[k]? = some x):Bot (xs.take (k+1)) (min m x):=by
 rw [take_snoc_at hx]
 refine ⟨fun y hy=>?_,?_⟩
 · rcases List.mem_append.1 hy with hy | hy
   · have:=h.le y hy;omega
   · rw [List.mem_singleton.1 hy];omega
 · by_cases hm:m≤x
   · rw [show min m x=m by omega];exact List.mem_append_left _ h.mem
   · rw [show min m x=x by omega];simp
end Go.Proofs.YtajhkncolbgkbaaDoor
end
section
namespace Go.Proofs.YtajhkncolbgkbaaDoor
open Oct
theorem WF.bytes {t:Tr} (h:Tr.WF t):Bytes t:=by
 cases t with
 | uni c=>exact Bytes.uni h
 | brick l=>exact Bytes.brick h
 | node d ch=>exact Bytes.node h.1 ch
def Between (ts ts':List Tr):Prop := ∀ vs,ts <+: vs→vs <+: ts'→Good vs
theorem Between.same {ts:List Tr} (hG:Good ts):Between ts ts:=fun vs h1 h2=>by
 have:=h1.eq_of_length_le h2.length_le
 exact this ▸ hG
theorem Between.trans {a b c:List Tr} (h:Between a b) (h':Between b c) (hbc:b <+: c):Between a c:=fun vs h1 h2=>by
 rcases List.prefix_or_prefix_of_prefix h2 hbc with h3 | h3
 · exact h vs h1 h3
 · exact h' vs h3 h2
theorem Between.left {a b c:List Tr} (h:Between a c) (hbc:b <+: c):Between a b:=fun vs h1 h2=>h vs h1 (h2.trans hbc)
def many:Nat→Nat
 | 0=>1
 | n+1=>1+8 * many n
end Go.Proofs.YtajhkncolbgkbaaDoor
end
section
namespace Go.Proofs.YtajhkncolbgkbaaDoor
open Go.RowKit Go.Sort
def over (ys:List Int) (k:Nat) (cs:List Int):List Int:=splice ys k cs
end Go.Proofs.YtajhkncolbgkbaaDoor
end
section
namespace Go.Proofs.YtajhkncolbgkbaaDoor
open Go.RowKit Go.Sort
theorem Bk.grown {w w':World} {b g:Nat} {vs:Array Value} {t:TypeId} (h:Bk w b vs t) (hg:w.grownBy w' (some g)) (hne:b ≠ g):Bk w' b vs t:=by
 have hlt:b<w.heap.size:=(Array.getElem?_eq_some_iff.1 h).1
 exact (hg.block b hlt (fun e=>hne (by injection e))).trans h
end Go.Proofs.YtajhkncolbgkbaaDoor
end
section
namespace Go.Proofs.YtajhkncolbgkbaaDoor
open Go.Sort
def cellG (b:Box) (xs:List Int) (p:Pt):Int:=if inB p b=true then xs.getD (indexB b p).toNat 0 else 0
def cellsOf (b:Box) (f:Pt→Int):List Int:=(List.range (volB b).toNat).map fun i:Nat=>f (atB b (i:Int))
end Go.Proofs.YtajhkncolbgkbaaDoor
end
section
namespace Go.Proofs.YtajhkncolbgkbaaDoor
open Go.RowKit Go.Sort
theorem Sl.grown {w w':World} {k:IntKind} {b off g:Nat} {xs:List Int} (h:Sl w k (some ⟨b,off,none⟩) xs) (hg:w.grownBy w' (some g)) (hne:b ≠ g):Sl w' k (some ⟨b,off,none⟩) xs:=by
 intro i x hx
 obtain ⟨b',off',e,hc⟩:=h i x hx
 refine ⟨b',off',e,?_⟩
 injection e with e;injection e with e1 e2;subst e1 e2
 have hlt:b<w.heap.size:=World.block_lt_of_cell? _ _ hc
 exact (World.cell?_of_block (hg.block b hlt (fun e=>hne (by injection e)))).trans hc
theorem Sl.any {w:World} {k:IntKind} {a a':Option Addr} (_h:Sl w k a []):Sl w k a' []:=Sl.nil _ _ _
end Go.Proofs.YtajhkncolbgkbaaDoor
end
section
namespace Go.Proofs.YtajhkncolbgkbaaDoor
open Go.RowKit Go.Sort Go.Maps
open Oct
theorem Sl.far {w w':World} {Far:Nat→Prop} {k:IntKind} {ha:Option Addr} {xs:List Int} (h:Sl w k ha xs) (hk:Keeps Far w w') (hf:xs ≠ [] → ∀ b,ha.map (·.block)=some b→Far b):Sl w' k ha xs:=by
 intro i x hx
 obtain ⟨b,off,rfl,hc⟩:=h i x hx
 refine ⟨b,off,rfl,?_⟩
 have hlt:=World.block_lt_of_cell? w _ hc
 rw [World.cell?_of_block (hk.block b (hf (by rintro rfl;simp at hx) b rfl) hlt)];exact hc
section
variable {w w':World} {Far Far':Nat→Prop} {pg ps pb sb:Nat} {a b c d e f:Int} {ha:Option Addr} {hcp:Nat} {xs:List Int}
end
end Go.Proofs.YtajhkncolbgkbaaDoor
end
section
namespace Go.Proofs.YtajhkncolbgkbaaDoor
open Go.RowKit Go.Sort Go.Maps
open Oct
structure GoodH (b:Box) (xs:List Int) (hcp:Nat):Prop where
 small:Small b 1048575
 len:xs.length=(volB b).toNat
 le:xs.length≤5000
 cells : ∀ x∈xs,0≤x∧x≤255
 cap:xs.length≤hcp
theorem GoodH.range {b:Box} {xs:List Int} {hcp:Nat} (h:GoodH b xs hcp) (p:Pt):0≤cellG b xs p∧cellG b xs p≤255:=by
 unfold cellG
 split
 · rename_i hp
   have hi:=indexB_bd hp
   have hl:=h.len
   have hlt:(indexB b p).toNat<xs.length:=by omega
   rw [Tr.getD_el hlt]
   exact h.cells _ (List.getElem_mem _)
 · omega
structure GoodG (b:Box) (xs:List Int) (hcp:Nat):Prop where
 small:Small b 1048575
 len:xs.length=(volB b).toNat
 le:xs.length≤300
 cells : ∀ x∈xs,0≤x∧x≤255
 cap:xs.length≤hcp
theorem GoodG.toH {b:Box} {xs:List Int} {hcp:Nat} (h:GoodG b xs hcp):GoodH b xs hcp:=⟨h.small,h.len,Nat.le_trans h.le (by decide),h.cells,h.cap⟩
theorem GoodG.range {b:Box} {xs:List Int} {hcp:Nat} (h:GoodG b xs hcp) (p:Pt):0≤cellG b xs p∧cellG b xs p≤255:=h.toH.range p
instance (b:Box) (xs:List Int) (hcp:Nat):Coe (GoodG b xs hcp) (GoodH b xs hcp):=⟨GoodG.toH⟩
end Go.Proofs.YtajhkncolbgkbaaDoor
end
section
namespace Go.Proofs.YtajhkncolbgkbaaDoor
open Go.RowKit Go.Sort Go.Maps
open Oct
theorem i64_or_nat (a b:Nat) (ha:a<4611686018427387904) (hb:b<4611686018427387904):bits .or .i64 (a:Int) (b:Int)=((a ||| b:Nat):Int):=by
 have hx:a ||| b<2 ^ 62:=Nat.or_lt_two_pow (by omega) (by omega)
 show IntKind.i64.wrap ((BitVec.ofInt 64 (a:Int) ||| BitVec.ofInt 64 (b:Int)).toNat:Int)=_
 rw [BitVec.toNat_or,Go.ofInt_u64 a (by omega),Go.ofInt_u64 b (by omega)]
 exact wraps_i64 _ (by omega) (by omega)
end Go.Proofs.YtajhkncolbgkbaaDoor
end
section
namespace Go.Proofs.YtajhkncolbgkbaaDoor
theorem i64_xor_nat (a b:Nat) (ha:a<4611686018427387904) (hb:b<4611686018427387904):bits .xor .i64 (a:Int) (b:Int)=((a ^^^ b:Nat):Int):=by
 have hx:a ^^^ b<2 ^ 62:=Nat.xor_lt_two_pow (by omega) (by omega)
 show IntKind.i64.wrap ((BitVec.ofInt 64 (a:Int) ^^^ BitVec.ofInt 64 (b:Int)).toNat:Int)=_
 rw [BitVec.toNat_xor,Go.ofInt_u64 a (by omega),Go.ofInt_u64 b (by omega)]
 exact wraps_i64 _ (by omega) (by omega)
theorem i64_and1_nat (c:Nat) (h:c<4611686018427387904):bits .and .i64 (c:Int) 1=((c % 2:Nat):Int):=by
 have:=bits_mask .i64 62 (by decide) wraps_i64 1 (by decide) (c:Int) (by omega) (by rw [show (2:Int) ^ 62=4611686018427387904 by decide];omega)
 rw [show ((2:Int) ^ 1 - 1)=1 by decide] at this
 rw [this];simp
theorem crc_prog {c:Nat} (h:c<2 ^ 32):bits .xor .i64 ((c:Int) / 2) (IntKind.i64.wrap (3988292384 * bits .and .i64 (c:Int) 1))=((crcS c:Nat):Int):=by
 rw [i64_and1_nat c (by omega)]
 unfold crcS
 rcases Nat.mod_two_eq_zero_or_one c with e | e
 · rw [e,if_neg (by decide),show IntKind.i64.wrap (3988292384 * ((0:Nat):Int))=((0:Nat):Int) from IntWalk.i64_in _ (by omega)]
   rw [show (c:Int) / 2=((c / 2:Nat):Int) by omega,i64_xor_nat _ _ (by omega) (by omega),Nat.xor_zero]
 · rw [e,if_pos rfl,show IntKind.i64.wrap (3988292384 * ((1:Nat):Int))=((crcP:Nat):Int) by rw [show (3988292384 * ((1:Nat):Int))=((crcP:Nat):Int) by unfold crcP;omega];exact IntWalk.i64_in _ (by unfold crcP;omega)]
   rw [show (c:Int) / 2=((c / 2:Nat):Int) by omega,i64_xor_nat _ _ (by omega) (by unfold crcP;omega)]
theorem crc_in {c:Nat} (h:c<2 ^ 32) {x:Int} (hx:0≤x∧x≤255):bits .xor .i64 (c:Int) x=((c ^^^ x.toNat:Nat):Int):=by
 obtain ⟨n,rfl⟩:=Int.eq_ofNat_of_zero_le hx.1
 exact i64_xor_nat c n (by omega) (by omega)
end Go.Proofs.YtajhkncolbgkbaaDoor
end
section
namespace Go.Proofs.YtajhkncolbgkbaaDoor
def bytesP (n k:Nat):List Int:=(List.range k).map fun i=>((n / 256 ^ i % 256:Nat):Int)
theorem bytes_len (n k:Nat):(bytesP n k).length=k:=by simp [bytesP]
theorem bytes_four (n:Nat):bytesP n 4=fourP n:=by
 simp [bytesP,fourP,List.range_succ]
theorem bytes_two (n:Nat):bytesP n 2=[((n % 256:Nat):Int),((n / 256 % 256:Nat):Int)]:=by
 simp [bytesP,List.range_succ]
theorem bytes_at {n k i:Nat} (h:i<k):(bytesP n k)[i]? = some ((n / 256 ^ i % 256:Nat):Int):=by
 unfold bytesP;rw [List.getElem?_map,List.getElem?_range h];rfl
def numK:List Int→Nat
 | []=>0
 | x::l=>x.toNat+256 * numK l
theorem numK_app (l:List Int) (x:Int):numK (l++[x])=numK l+256 ^ l.length * x.toNat:=by
 induction l with
 | nil=>simp [numK]
 | cons y l ih=>simp only [List.cons_append,numK,ih,List.length_cons,Nat.pow_succ,Nat.mul_add];rw [Nat.mul_comm (256 ^ l.length) 256,Nat.mul_assoc];omega
theorem numK_lt {l:List Int} (h:Byts l):numK l<256 ^ l.length:=by
 induction l with
 | nil=>simp [numK]
 | cons y l ih =>
   have h1:=ih fun x hx=>h x (List.mem_cons_of_mem _ hx)
   have h2:=h y (List.mem_cons_self ..)
   simp only [numK,List.length_cons,Nat.pow_succ];omega
theorem numK_four {l:List Int} (h:4≤l.length):numK (l.take 4)=numP l:=by
 match l,h with
 | a::b::c::d::r,_=>simp [numK,numP];omega
theorem numK_two {l:List Int} {i:Nat} (h:i+2≤l.length):numK ((l.drop i).take 2)=(l.getD i 0).toNat+256 * (l.getD (i+1) 0).toNat:=by
 have h1:l.drop i=l[i]'(by omega)::l[i+1]'(by omega)::l.drop (i+2):=by
  rw [List.drop_eq_getElem_cons (by omega),List.drop_eq_getElem_cons (by omega)]
 rw [h1]
 simp only [List.take_succ_cons,List.take_zero,numK]
 rw [List.getD_eq_getElem?_getD,List.getD_eq_getElem?_getD,List.getElem?_eq_getElem (by omega),List.getElem?_eq_getElem (by omega)]
 simp
theorem or_step {n i:Nat} (hi:i<4) (hn:n<256 ^ i) {x:Int} (hx:0≤x∧x≤255):bits .or .i64 (n:Int) (IntKind.i64.wrap (x * 2 ^ (8 * i)))=((n+256 ^ i * x.toNat:Nat):Int):=by
 obtain ⟨y,rfl⟩:=Int.eq_ofNat_of_zero_le hx.1
 have h8:(2:Nat) ^ (8 * i)=256 ^ i:=by rw [Nat.pow_mul]
 have h8i:(2:Int) ^ (8 * i)=((256 ^ i:Nat):Int):=by rw [←h8];simp
 have hle:256 ^ i≤256 ^ 3:=Nat.pow_le_pow_right (by decide) (by omega)
 have hy:y≤255:=by omega
 have hm:y * 256 ^ i≤255 * 256 ^ 3:=Nat.mul_le_mul hy hle
 rw [h8i,show ((y:Int) * ((256 ^ i:Nat):Int))=((y * 256 ^ i:Nat):Int) by simp,show IntKind.i64.wrap ((y * 256 ^ i:Nat):Int)=((y * 256 ^ i:Nat):Int) from IntWalk.i64_in _ (by omega)]
 rw [i64_or_nat _ _ (by omega) (by omega)]
 have h2:n ||| y * 256 ^ i=n+256 ^ i * y:=by
  rw [Nat.mul_comm y,←h8,Nat.or_comm,←Nat.two_pow_add_eq_or_of_lt (by rw [h8];exact hn) y]
  omega
 rw [h2];simp
end Go.Proofs.YtajhkncolbgkbaaDoor
end
section
namespace Go.Proofs.YtajhkncolbgkbaaDoor
open Go.RowKit Go.Sort Go.Maps
theorem crcR_succ : ∀ (k c:Nat),crcR (k+1) c=crcS (crcR k c)
 | 0,_=>rfl
 | k + 1, c => by
   show crcR (k+1) (crcS c)=crcS (crcR k (crcS c))
   exact crcR_succ k (crcS c)
theorem crcT_take {t:List Int} {k:Nat} {x:Int} (h:t[k]? = some x) (c:Nat):crcT (t.take (k+1)) c=crcB (crcT (t.take k) c) x:=by
 have hk:k<t.length:=(List.getElem?_eq_some_iff.1 h).1
 rw [List.take_succ_eq_append_getElem hk,crcT_app]
 rw [List.getElem?_eq_getElem hk] at h
 rw [Option.some.inj h];rfl
set_option maxRecDepth 100000 in
set_option maxHeartbeats 2000000 in
theorem crc_any (t:List Int) (hb:Byts t) (hl:t.length≤100000) (w:World) :
 Calls Tryd.prog 70 #[.string (strOfNums t)] w fun e w'=>e = .returned (.int .i64 (crcV t:Nat))∧Below w.heap.size w w':=by
 obtain ⟨cT,W,hcv,hsl,hbT⟩:=bytes_of_str (P:=Tryd.prog) 9 75 5 Tryd.underlying9 Tryd.underlying75 Tryd.underlying5 hb w
 have HB:=Bx.mk hbT
 have HS:=Bx.mk hsl
 obtain ⟨n,hn⟩ : ∃ n,n=t.length:=⟨_,rfl⟩
 rw [←hn] at hcv hl
 have Hn:=Bx.mk hn
 have Hb:=Bx.mk hb
 clear hbT hsl hn hb
 go_enter Tryd.func70,Tryd.ntmps70
 go_wp2_with fail
 clear hcv
 go_loopw [3,9] (fun v3 v9 wr => ∃ k:Nat,k≤n∧v9 = .int .i64 k∧v3 = .int .i64 (crcT (t.take k) 4294967295:Nat)∧Bx (Below W.heap.size W wr)) (fun _ i _=>n - (intOf i).toNat)
 case atStart=>exact ⟨0,Nat.zero_le _,rfl,by simp [crcT],⟨Below.refl _ _⟩⟩
 case round =>
  obtain ⟨k,hk,rfl,rfl,HW⟩:=hrel
  have hc:=crcT_lt (l:=t.take k) (fun x hx=>Hb.out x (List.mem_of_mem_take hx)) (c:=4294967295) (by decide)
  by_cases hlt:k<n
  · have t0:decide ((k:Int)<(n:Int))=true:=by simp;omega
    obtain ⟨x,hx⟩ : ∃ x,t[k]? = some x:=⟨_,List.getElem?_eq_getElem (by rw [←Hn.out];exact hlt)⟩
    have hxb:=Hb.out x (List.mem_of_getElem? hx)
    have Hx:=Bx.mk hx
    obtain ⟨b,off,e,hcell⟩:=HS.out k x hx
    simp only [Option.some.injEq,Addr.mk.injEq,and_true] at e
    obtain ⟨rfl,rfl⟩:=e
    rw [Nat.zero_add] at hcell
    have c0:=cell_later HW.out hcell
    have hT:=Bx.mk (crcT_take hx 4294967295)
    have hin:=crc_in hc hxb
    have hx8:IntKind.i64.wrap x=x:=IntWalk.i64_in _ (by omega)
    have hlt32:crcT (t.take k) 4294967295 ^^^ x.toNat<2 ^ 32:=Nat.xor_lt_two_pow hc (by omega)
    have hB:Bx (crcT (t.take (k+1)) 4294967295=crcR 8 (crcT (t.take k) 4294967295 ^^^ x.toNat)):=⟨by rw [hT.out];rfl⟩
    clear hT hx hcell hc
    generalize crcT (t.take k) 4294967295=cc at *
    obtain ⟨c1,hc1⟩ : ∃ c1,c1=cc ^^^ x.toNat:=⟨_,rfl⟩
    rw [←hc1] at hB hin hlt32
    clear hc1
    have b1:(0:Int)≤(k:Int):=by omega
    have b2:(k:Int)<(n:Int):=by omega
    go_wp2_with fail
    clear c0 hin
    go_loopw [3,17] (fun v3 v17 wr => ∃ j:Nat,j≤8∧v17 = .int .i64 j∧v3 = .int .i64 (crcR j c1:Nat)∧Bx (Below W.heap.size W wr)) (fun _ i _=>8 - (intOf i).toNat)
    case atStart=>exact ⟨0,Nat.zero_le _,rfl,rfl,HW⟩
    case round =>
     clear HW
     obtain ⟨j,hj,rfl,rfl,HW⟩:=hrel
     by_cases hjl:j<8
     · have t1:decide ((j:Int)<8)=true:=by simp;omega
       have hcj:=crcR_lt j hlt32
       have hs:=Bx.mk (crcR_succ j c1)
       generalize crcR j c1=cj at *
       have hp:=crc_prog hcj
       obtain ⟨cm,hcm⟩ : ∃ x,bits .and .i64 (cj:Int) 1=x:=⟨_,rfl⟩
       rw [hcm] at hp
       obtain ⟨cp,hcp⟩ : ∃ x,IntKind.i64.wrap (3988292384 * cm)=x:=⟨_,rfl⟩
       rw [hcp] at hp
       go_wp2_with fail
       go_roundw
       case rel=>exact ⟨j+1,by omega,by go_num,by rw [hs.out],HW⟩
       case measure=>simp [intOf];omega
     · obtain rfl:j=8:=by omega
       have t1:decide (((8:Nat):Int)<8)=false:=by decide
       go_wp2_with fail
       go_roundw
       case rel=>exact ⟨k+1,by omega,by go_num,by rw [hB.out],HW⟩
       case measure=>simp [intOf];omega
  · obtain rfl:k=n:=by omega
    have t0:decide ((k:Int)<(k:Int))=false:=by simp
    have e:Bx (t.take k=t):=⟨List.take_of_length_le (by rw [←Hn.out];exact Nat.le_refl _)⟩
    rw [e.out] at hc ⊢
    have hx:bits .xor .i64 ((crcT t 4294967295:Nat):Int) 4294967295=((crcV t:Nat):Int):=i64_xor_nat _ 4294967295 (by omega) (by omega)
    generalize crcT t 4294967295=ct at *
    go_wp2_with fail
    go_ret
    exact ⟨rfl,HB.out.trans (HW.out.mono HB.out.size)⟩
end Go.Proofs.YtajhkncolbgkbaaDoor
end
section
namespace Go.Proofs.YtajhkncolbgkbaaDoor
open Go.RowKit Go.Sort Go.Maps
theorem shr_bytes (n i:Nat) (hi:i<4):Op.shift .shr .i64 (n:Int) .i64 (8 * (i:Int))=pure (.int .i64 ((n / 256 ^ i:Nat):Int)):=by
 have:=shift_shr_i64 (x:=(n:Int)) (yk:=.i64) (y:=8 * (i:Int)) (by omega) (by omega)
 refine this.trans ?_
 rw [show (8 * (i:Int)).toNat=8 * i by omega,show (2:Int) ^ (8 * i)=((256 ^ i:Nat):Int) by rw [show (256:Nat) ^ i=2 ^ (8 * i) by rw [Nat.pow_mul]];simp]
 simp
theorem shl_bytes (x:Int) (i:Nat) (hi:i<4):Op.shift .shl .i64 x .i64 (8 * (i:Int))=pure (.int .i64 (IntKind.i64.wrap (x * 2 ^ (8 * i)))):=by
 have:=shift_shl_i64 (x:=x) (yk:=.i64) (y:=8 * (i:Int)) (by omega) (by omega)
 refine this.trans ?_
 rw [show (8 * (i:Int)).toNat=8 * i by omega]
set_option maxRecDepth 100000 in
set_option maxHeartbeats 1000000 in
theorem bytes_any (n k:Nat) (hk:k≤4) (w:World) :
 Calls Tryd.prog 69 #[.int .i64 (n:Int),.int .i64 (k:Int)] w fun e w'=>e = .returned (.string (strOfNums (bytesP n k)))∧Below w.heap.size w w':=by
 have hmk : ∀ W,(Instr.makeSlice 75 (.int .i64 (k:Int)) (.int .i64 (k:Int))).run Tryd.prog W = .ok (.slice (some ⟨W.heap.size,0,none⟩) k k) (W.alloc (.cells (madeCells #[.int .u8 0] k) 5)) :=
  fun W=>run_make_row' (P:=Tryd.prog) 75 5 (.int .u8 0) 1 Tryd.underlying75 (by kernel_rfl) rfl .i64 .i64 k (by omega) (by omega) W
 go_enter Tryd.func69,Tryd.ntmps69
 go_wp2_with fail
 clear hmk
 go_loopw [11] (fun i wr => ∃ j:Nat,j≤k∧i = .int .i64 j∧Bx (wr.rowIs w.heap.size 5 k (fun a=>.int .u8 (if a<j then ((n / 256 ^ a % 256:Nat):Int) else 0)))∧Bx (Below w.heap.size w wr)) (fun i _=>k - (intOf i).toNat)
 case atStart=>exact ⟨0,Nat.zero_le _,rfl,⟨(World.rowIs_made _ _ _ _).congr (fun i _=>rfl)⟩,⟨(Below.refl _ _).alloc (Nat.le_refl _) _⟩⟩
 case round =>
  obtain ⟨j,hj,rfl,hrow,hB⟩:=hrel
  by_cases hlt:j<k
  · have t0:decide ((j:Int)<(k:Int))=true:=by simp;omega
    have hsh:=shr_bytes n j (by omega)
    have hw8:IntKind.u8.wrap ((n / 256 ^ j:Nat):Int)=((n / 256 ^ j % 256:Nat):Int):=by
     rw [IntKind.wrap_u8];omega
    have hw:IntKind.i64.wrap (8 * (j:Int))=8 * (j:Int):=IntWalk.i64_in _ (by omega)
    obtain ⟨y,hy⟩ : ∃ y,y=8 * (j:Int):=⟨_,rfl⟩
    rw [←hy] at hsh
    replace hw:IntKind.i64.wrap (8 * (j:Int))=y:=by rw [hy];exact hw
    clear hy
    obtain ⟨x,hx⟩ : ∃ x,x=n / 256 ^ j % 256:=⟨_,rfl⟩
    rw [←hx] at hw8
    have Hx:=Bx.mk hx
    clear hx
    obtain ⟨q,hq⟩ : ∃ q,q=n / 256 ^ j:=⟨_,rfl⟩
    rw [←hq] at hw8 hsh
    clear hq
    have b1:(0:Int)≤(j:Int):=by omega
    have b2:(j:Int)<(k:Int):=by omega
    have hcell:=hrow.out.cell hlt
    have hfr:=hrow.out.frozen j
    go_wp2_with fail
    have hrow2:=Bx.mk ((hrow.out.set j (.int .u8 (x:Int))).congr (g:=fun a=>.int .u8 (if a<j+1 then ((n / 256 ^ a % 256:Nat):Int) else 0)) (fun a ha=>by
     by_cases e:a=j
     · rw [e];simp only [if_true];rw [if_pos (by omega),Hx.out]
     · simp only [e,if_false];by_cases h5:a<j
       · rw [if_pos h5,if_pos (by omega)]
       · rw [if_neg h5,if_neg (by omega)]))
    have hB2:=Bx.mk (show Below w.heap.size w (wr.setCell ⟨w.heap.size,j,none⟩ (.int .u8 (x:Int))) from hB.out.setCell (Nat.le_refl _) _)
    clear hcell hfr
    go_roundw
    case rel=>exact ⟨j+1,by omega,by go_num,hrow2,hB2⟩
    case measure=>simp [intOf];omega
  · obtain rfl:j=k:=by omega
    have t0:decide ((j:Int)<(j:Int))=false:=by simp
    have hsl:Sl wr .u8 (some ⟨w.heap.size,0,none⟩) (bytesP n j):=fun i x hx=>⟨w.heap.size,0,rfl,by
     have hi:i<j:=by have:=(List.getElem?_eq_some_iff.1 hx).1;rwa [bytes_len] at this
     have:=hrow.out.cell hi
     simp only [hi,if_true] at this
     rw [Nat.zero_add,this]
     rw [bytes_at hi] at hx
     rw [Option.some.inj hx]⟩
    have hcv:=conv_str (P:=Tryd.prog) 75 5 9 Tryd.underlying75 Tryd.underlying5 Tryd.underlying9 hsl j j (bytes_len n j).symm
    clear hsl hrow
    go_wp2_with fail
    go_ret
    exact ⟨rfl,hB.out⟩
set_option maxRecDepth 100000 in
set_option maxHeartbeats 1000000 in
theorem number_any (t:List Int) (hb:Byts t) (hl:t.length≤4) (w:World) :
 Calls Tryd.prog 64 #[.string (strOfNums t)] w fun e w'=>e = .returned (.int .i64 (numK t:Nat))∧Below w.heap.size w w':=by
 obtain ⟨n,hn⟩ : ∃ n,n=t.length:=⟨_,rfl⟩
 have hsz:(strOfNums t).size=n:=by rw [strOfNums_size,hn]
 have Hn:=Bx.mk hn
 have Hb:=Bx.mk hb
 rw [←hn] at hl
 clear hn hb
 go_enter Tryd.func64,Tryd.ntmps64
 go_wp2_with fail
 go_loopw [2,6] (fun v2 v6 wr => ∃ k:Nat,k≤n∧v6 = .int .i64 k∧v2 = .int .i64 (numK (t.take k):Nat)∧wr=w) (fun _ i _=>n - (intOf i).toNat)
 case atStart=>exact ⟨0,Nat.zero_le _,rfl,by simp [numK],rfl⟩
 case round =>
  obtain ⟨k,hk,rfl,rfl,rfl⟩:=hrel
  by_cases hlt:k<n
  · have t0:decide ((k:Int)<(n:Int))=true:=by simp;omega
    obtain ⟨x,hx⟩ : ∃ x,t[k]? = some x:=⟨_,List.getElem?_eq_getElem (by rw [←Hn.out];exact hlt)⟩
    have hxb:=Hb.out x (List.mem_of_getElem? hx)
    obtain ⟨hk2,hget⟩:=str_get Hb.out hx
    have hnk:=numK_lt (l:=t.take k) (fun x hx=>Hb.out x (List.mem_of_mem_take hx))
    have hlk:(t.take k).length=k:=by rw [List.length_take,←Hn.out];omega
    rw [hlk] at hnk
    have hor:=or_step (n:=numK (t.take k)) (i:=k) (by omega) hnk hxb
    have hN:Bx (numK (t.take (k+1))=numK (t.take k)+256 ^ k * x.toNat):=⟨by
     rw [List.take_succ_eq_append_getElem (by rw [←Hn.out];exact hlt),numK_app,hlk]
     rw [List.getElem?_eq_getElem (by rw [←Hn.out];exact hlt)] at hx
     rw [Option.some.inj hx]⟩
    have hsh:=shl_bytes x k (by omega)
    have hw:IntKind.i64.wrap (8 * (k:Int))=8 * (k:Int):=IntWalk.i64_in _ (by omega)
    have hx8:IntKind.i64.wrap x=x:=IntWalk.i64_in _ (by omega)
    obtain ⟨y,hy⟩ : ∃ y,y=8 * (k:Int):=⟨_,rfl⟩
    rw [←hy] at hsh
    replace hw:IntKind.i64.wrap (8 * (k:Int))=y:=by rw [hy];exact hw
    clear hy
    obtain ⟨z,hz⟩ : ∃ z,z=IntKind.i64.wrap (x * 2 ^ (8 * k)):=⟨_,rfl⟩
    rw [←hz] at hsh hor
    obtain ⟨n2,hn2⟩ : ∃ n2,n2=numK (t.take k)+256 ^ k * x.toNat:=⟨_,rfl⟩
    rw [←hn2] at hN hor
    clear hz hn2 hx hlk hnk
    have b1:(0:Int)≤(k:Int):=by omega
    have b2:(k:Int)<(n:Int):=by omega
    generalize numK (t.take k)=n1 at *
    go_wp2_with fail
    go_roundw
    case rel=>exact ⟨k+1,by omega,by go_num,by rw [hN.out],by first | rfl | trivial⟩
    case measure=>simp [intOf];omega
  · obtain rfl:k=n:=by omega
    have t0:decide ((k:Int)<(k:Int))=false:=by simp
    have e:Bx (t.take k=t):=⟨List.take_of_length_le (by rw [←Hn.out];exact Nat.le_refl _)⟩
    rw [e.out]
    go_wp2_with fail
    go_ret
    exact ⟨rfl,Below.refl _ _⟩
end Go.Proofs.YtajhkncolbgkbaaDoor
end
