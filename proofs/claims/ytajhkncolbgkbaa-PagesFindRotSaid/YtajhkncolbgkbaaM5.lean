/- Mem, Pgm, Dis: joined by program, for one claim. -/
import Derived.Test.YtajhkncolbgkbaaM1
import Derived.Test.YtajhkncolbgkbaaM2
import Derived.Deep.MidRow
import Derived.Laws.Tables
import Derived.Maps.OwnSet
import Derived.Deep.QuietTactic
import Derived.Laws.CopyRow
import Derived.Maps.RangeWalk
import Derived.Maps.Views
import Derived.Maps.Ext
import Derived.Test.YtajhkncolbgkbaaM4
import Derived.Deep.Cut
import Derived.Deep.CutRange
import Derived.Deep.RegionHeld3
import Derived.BigQuiet
set_option linter.unusedVariables false
set_option linter.unusedSimpArgs false
namespace Go.Proofs.Ytajhkncolbgkbaa
section
open Go.RowKit
def arrV (k:IntKind) (xs:List Int):Value:=.agg (xs.map (Value.int k)).toArray
theorem one_ints (k:IntKind) (xs:List Int):(xs.map (Value.int k)).toArray.all (·.oneCell')=true:=by
 rw [Array.all_eq_true_iff_forall_mem]
 intro v hv
 simp only [List.mem_toArray,List.mem_map] at hv
 obtain ⟨x,_,rfl⟩:=hv
 rfl
theorem wpList_load_whole {P:Program} {ops:Array Oper} {rest:List Oper} {op:Oper} {a:Act} {w:World} {Q:Exit→Act→World→Prop} (hgd:op.guard=none) (ty:TypeId) (x:Operand) (ho:op.op = .load ty x)
 (g:Nat) (hx:a.eval x = .pointer (some ⟨g,0,none⟩)) (cs:Array Value) (t:TypeId) (hg:w.heap[g]? = some (.cells cs t (0,0))) (d:TypeDesc)
 (hu:P.underlying ty=some d) (hd:(match d with | .struct _ | .array _ _=>true | _=>false)=true) (hi:(P.info? ty).map (·.size)=some cs.size)
 (h:wpList P ops Q rest (a.put op.dst (.agg cs)) w):wpList P ops Q (op::rest) a w:=by
 refine wpList_plain hgd fun K hK=>?_
 unfold Oper.wp execOp
 simp only [ho,hx,Instr.loadAt,Instr.sureAddr,Sem.run_bind,Sem.run_pure,Result.andThen_ok,run_loadVar_row w g t ty cs (0,0) d hg hu hd hi]
 exact hK _ _ h
theorem wpList_store_whole {P:Program} {ops:Array Oper} {rest:List Oper} {op:Oper} {a:Act} {w:World} {Q:Exit→Act→World→Prop} (hgd:op.guard=none) (ty:TypeId) (x y:Operand) (ho:op.op = .store ty x y)
 (g:Nat) (hx:a.eval x = .pointer (some ⟨g,0,none⟩)) (cs cs':Array Value) (hy:a.eval y = .agg cs') (t:TypeId) (hg:w.heap[g]? = some (.cells cs t (0,0)))
 (hi:(P.info? ty).map (·.size)=some cs'.size) (hs:cs.size=cs'.size) (h1:cs'.all (·.oneCell')=true)
 (h:wpList P ops Q rest (a.put op.dst undef) (w.setRow g cs')):wpList P ops Q (op::rest) a w:=by
 refine wpList_plain hgd fun K hK=>?_
 unfold Oper.wp execOp
 have hr:=run_storeVar_row (P:=P) w g t ty cs cs' hg hi hs h1
 simp only [ho,hx,hy,Instr.storeAt,Instr.sureAddr,Sem.run_bind,Sem.run_pure,Result.andThen_ok,hr]
 exact hK _ _ h
theorem first_str {P:Program} (w:World) (s:List Int) (hs:Byt s):(Builtin.firstCells 1 s.length (.string (strOfNums s))).run P w = .ok (s.map (Value.int .u8)).toArray w:=by
 have h1:(strOfNums s).extract 0 s.length=strOfNums s:=by
  rw [str_extract,List.drop_zero,Nat.sub_zero,List.take_length]
 show (pure (((strOfNums s).extract 0 s.length).data.map fun b=>Value.int .u8 (b.toNat:Int)):Sem (Array Value)).run P w=_
 rw [h1]
 have h2:((strOfNums s).data.map fun b=>Value.int .u8 (b.toNat:Int))=(s.map (Value.int .u8)).toArray:=by
  have h3:=bs_str hs
  apply Array.ext'
  rw [Array.toList_map]
  conv=>rhs;rw [←h3]
  unfold bs
  rw [List.map_map]
  rfl
 rw [h2]
 rfl
theorem put_cells (ys:List Int) (o:Nat) (s:List Int):(((ys.map (Value.int .u8)).toArray.toList.take o++s.map (Value.int .u8)++(ys.map (Value.int .u8)).toArray.toList.drop (o+(s.map (Value.int .u8)).length)).toArray)=((put ys o s).map (Value.int .u8)).toArray:=by
 unfold put
 simp
theorem run_copy_str {P:Program} (w:World) (dT sT ty elem:TypeId) (g o dLen dCap:Nat) (t:TypeId) (ys s:List Int) (hs:Byt s)
 (hu:P.underlying dT=some (.slice elem)) (hsz:(P.info? elem).map (·.size)=some 1) (hg:w.heap[g]? = some (.cells (ys.map (Value.int .u8)).toArray t (0,0))) (hn:s.length≤dLen) (hfit:o+s.length≤ys.length) :
 (Builtin.copy_ #[dT,sT] ty #[.slice (some ⟨g,o,none⟩) dLen dCap,.string (strOfNums s)]).run P w = .ok (goInt s.length) (w.setRow g ((put ys o s).map (Value.int .u8)).toArray):=by
 have hst:=run_storeCells_at P g o t (s.map (Value.int .u8)) 0 _ w hg (by simpa using hfit) (fun v hv=>by
  obtain ⟨x,_,rfl⟩:=List.mem_map.1 hv
  rfl)
 have hf:=first_str (P:=P) w s hs
 have hm:Nat.min (strOfNums s).size dLen=s.length:=by rw [strOfNums_size];exact Nat.min_eq_left hn
 rw [Nat.add_zero,put_cells] at hst
 cases hq:P.info? elem with
 | none=>simp [hq] at hsz
 | some i =>
   have hi:i.size=1:=by simpa [hq] using hsz
   simp [Builtin.copy_,run_underlying hu,Builtin.lenOf,sizeOf,typeInfo,hq,hi,hm,hf,hst]
theorem wpList_copy_str {P:Program} {w:World} {ops:Array Oper} {rest:List Oper} {o:Oper} {a:Act} {Q:Exit→Act→World→Prop} (hgd:o.guard=none) (d s:Operand) (dT sT:TypeId)
 (ho:o.op = .call { callee:=.builtin .copy,args:=#[d,s],argTypes:=#[dT,sT] }) (elem:TypeId) (hu:P.underlying dT=some (.slice elem)) (hsz:(P.info? elem).map (·.size)=some 1)
 (g off dLen dCap:Nat) (hd:a.eval d = .slice (some ⟨g,off,none⟩) dLen dCap) (ys xs:List Int) (hx:Byt xs) (hs:a.eval s = .string (strOfNums xs)) (t:TypeId)
 (hg:w.heap[g]? = some (.cells (ys.map (Value.int .u8)).toArray t (0,0))) (hn:xs.length≤dLen) (hfit:off+xs.length≤ys.length)
 (h:wpList P ops Q rest (a.put o.dst (goInt xs.length)) (w.setRow g ((put ys off xs).map (Value.int .u8)).toArray)):wpList P ops Q (o::rest) a w:=by
 refine wpList_plain hgd fun K hK=>?_
 have hr:=run_copy_str (P:=P) w dT sT o.type elem g off dLen dCap t ys xs hx hu hsz hg hn hfit
 unfold Oper.wp execOp
 simp only [ho,resolve,invoke,builtin,Sem.run_bind,Sem.run_pure,Result.andThen_ok,List.map_toArray,List.map_cons,List.map_nil,hd,hs,hr]
 exact hK _ _ h
theorem wpQuiet_load_mid {P:Program} {ops:Array Oper} {C:World→Prop} {Q:Act→Prop} {a:Act} {o:Oper} {rest:List Oper} (hgd:o.guard=none) (ty:TypeId) (x:Operand) (ho:o.op = .load ty x)
 (b off:Nat) (hx:a.eval x = .pointer (some ⟨b,off,none⟩)) (cs:List Value) (d:TypeDesc) (hc : ∀ w,C w→w.rangeAt b off cs)
 (hu:P.underlying ty=some d) (hd:d.isRow=true) (hi:(P.info? ty).map (·.size)=some cs.length)
 (h:wpQuiet P ops C Q rest (a.put o.dst (.agg cs.toArray))):wpQuiet P ops C Q (o::rest) a:=by
 refine wpQuiet_step fun K hK=>?_
 have hw:Region.wanted o (yielded ops a.tmps)=true:=by unfold Region.wanted;rw [hgd]
 rw [if_pos hw]
 refine ⟨.agg cs.toArray,fun w hCw=>?_,hK _ h⟩
 unfold Oper.quietAt execOp
 simp only [ho,hx,Instr.loadAt,Instr.sureAddr,Sem.run_bind,Sem.run_pure,Result.andThen_ok,run_loadVar_mid w b off ty cs d (hc w hCw) hu hd hi]
 exact ⟨rfl,rfl⟩
structure Chg (S:Nat→Prop) (w w':World):Prop where
 os:w'.os=w.os
 tape:w'.tape=w.tape
 output:w'.output=w.output
 size:w.heap.size≤w'.heap.size
 block : ∀ k,k<w.heap.size → ¬S k→w'.heap[k]? = w.heap[k]?
section
variable {S T:Nat→Prop} {w w1 w':World}
theorem Chg.refl (S:Nat→Prop) (w:World):Chg S w w:=⟨rfl,rfl,rfl,Nat.le_refl _,fun _ _ _=>rfl⟩
theorem Chg.ofBelow (h:Below w.heap.size w w') (S:Nat→Prop):Chg S w w':=⟨h.os,h.tape,h.output,h.size,fun k hk _=>h.block k hk⟩
theorem Chg.ofGrown {b:Nat} (h:w.grownBy w' (some b)):Chg (· = b) w w':=⟨h.os,h.tape,h.output,h.size,fun k hk hn=>h.block k hk (by simpa using hn)⟩
theorem Chg.ofBlock {b:Nat} {es:Array MapEntry} {c:Nat} (_h:w.heap[b]? = some (.map es c)) (o:Obj):Chg (· = b) w (Go.ChangeMaps.setBlock w b o) :=
 ⟨rfl,rfl,rfl,by simp [Go.ChangeMaps.setBlock],fun k _ hn=>by simp only [Go.ChangeMaps.setBlock];rw [Array.getElem?_setIfInBounds_ne (fun e=>hn e.symm)]⟩
theorem Chg.mono (h:Chg S w w') (hs : ∀ k,k<w.heap.size→S k→T k):Chg T w w':=⟨h.os,h.tape,h.output,h.size,fun k hk hn=>h.block k hk fun e=>hn (hs k hk e)⟩
theorem Chg.trans (h:Chg S w w1) (h':Chg T w1 w') (hs : ∀ k,k<w.heap.size→T k→S k):Chg S w w' :=
 ⟨h'.os.trans h.os,h'.tape.trans h.tape,h'.output.trans h.output,Nat.le_trans h.size h'.size,fun k hk hn=>(h'.block k (Nat.lt_of_lt_of_le hk h.size) fun e=>hn (hs k hk e)).trans (h.block k hk hn)⟩
theorem Chg.below {B:Nat} (h:Chg S w w') (hB:B≤w.heap.size) (hs : ∀ k,k<B → ¬S k):Below B w w':=⟨h.os,h.tape,h.output,h.size,fun k hk=>h.block k (Nat.lt_of_lt_of_le hk hB) (hs k hk)⟩
theorem Chg.setCell (h:Chg S w w') {a:Addr} (ha:S a.block∨w.heap.size≤a.block) (v:Value):Chg S w (w'.setCell a v) :=
 ⟨h.os,h.tape,h.output,by simpa [World.setCell] using h.size,fun k hk hn=>by
  rw [heap_setCell_other w' a k v (fun e=>by subst e;rcases ha with h1 | h1 <;> first | exact hn h1 | omega)]
  exact h.block k hk hn⟩
theorem Chg.later {B:Nat} (h:Chg S w w1) (hb:Below B w1 w') (hB:w.heap.size≤B):Chg S w w' :=
 ⟨hb.os.trans h.os,hb.tape.trans h.tape,hb.output.trans h.output,Nat.le_trans h.size hb.size,fun k hk hn=>(hb.block k (by omega)).trans (h.block k hk hn)⟩
theorem Bk.chg {b:Nat} {cs:Array Value} {t:TypeId} (h:Bk w b cs t) (hc:Chg S w w') (hn : ¬S b):Bk w' b cs t:=by
 unfold Bk;rw [hc.block b (Bk.lt h) hn];exact h
end
theorem heap_setCells_other (b:Nat) : ∀ (vs:List Value) (o:Nat) (w:World) (k:Nat),k ≠ b→(w.setCells b o vs).heap[k]? = w.heap[k]?
 | [],_,_,_,_=>rfl
 | v :: vs, o, w, k, hk => by
   unfold World.setCells
   rw [heap_setCells_other b vs _ _ k hk,heap_setCell_other w ⟨b,o,none⟩ k v hk]
theorem setCells_rest (b:Nat) : ∀ (vs:List Value) (o:Nat) (w:World),(w.setCells b o vs).os=w.os∧(w.setCells b o vs).tape=w.tape∧(w.setCells b o vs).output=w.output∧(w.setCells b o vs).heap.size=w.heap.size
 | [],_,_=>⟨rfl,rfl,rfl,rfl⟩
 | v :: vs, o, w => by
   unfold World.setCells
   obtain ⟨h1,h2,h3,h4⟩:=setCells_rest b vs (o+1) (w.setCell ⟨b,o,none⟩ v)
   exact ⟨h1,h2,h3,h4.trans (by simp [World.setCell])⟩
theorem Chg.setCells {S:Nat→Prop} {w w':World} (h:Chg S w w') {b:Nat} (hb:S b∨w.heap.size≤b) (o:Nat) (vs:List Value):Chg S w (w'.setCells b o vs):=by
 obtain ⟨h1,h2,h3,h4⟩:=setCells_rest b vs o w'
 exact ⟨h1.trans h.os,h2.trans h.tape,h3.trans h.output,by rw [h4];exact h.size,fun k hk hn=>by
  rw [heap_setCells_other b vs o w' k (fun e=>by subst e;rcases hb with h1 | h1 <;> first | exact hn h1 | omega)]
  exact h.block k hk hn⟩
structure Pages (w:World) (g:Nat) (p:List Pg):Prop where
 at_ : ∀ i x,p[i]? = some x→w.rangeAt g (i * 128) (x.1.map (Value.int .u8))
 free:w.there g 0 (p.length * 128)
 lt:g<w.heap.size
section
variable {w w':World} {g:Nat} {p:List Pg}
theorem cell_of_heap {w w':World} {b:Nat} (h:w'.heap[b]? = w.heap[b]?) (o:Nat):w'.cell? ⟨b,o,none⟩=w.cell? ⟨b,o,none⟩:=World.cell?_of_block h
theorem frozen_of_heap {w w':World} {b:Nat} (h:w'.heap[b]? = w.heap[b]?) (o:Nat):w'.frozen? ⟨b,o,none⟩=w.frozen? ⟨b,o,none⟩:=by unfold World.frozen?; rw [h]
theorem Pages.of_heap (h:Pages w g p) (he:w'.heap[g]? = w.heap[g]?) (hs:w.heap.size≤w'.heap.size):Pages w' g p :=
 ⟨fun i x hx j v hv=>(cell_of_heap he _).trans (h.at_ i x hx j v hv),fun j hj=>by rw [cell_of_heap he,frozen_of_heap he];exact h.free j hj,Nat.lt_of_lt_of_le h.lt hs⟩
theorem Pages.chg {S:Nat→Prop} (h:Pages w g p) (hc:Chg S w w') (hn : ¬S g):Pages w' g p:=h.of_heap (hc.block g h.lt hn) hc.size
theorem Pages.later (h:Pages w g p) (hb:Below w.heap.size w w'):Pages w' g p:=h.chg (.ofBelow hb (fun _=>False)) (fun e=>e)
theorem Pages.there (h:Pages w g p) {i:Nat} (hi:i<p.length):w.there g (i * 128) 128:=fun j hj=>by
 have:=h.free (i * 128+j) (by omega)
 rwa [Nat.zero_add] at this
theorem Pages.same {q:List Pg} (h:Pages w g p) (hq:q.map (·.1)=p.map (·.1)):Pages w g q:=by
 have hl:q.length=p.length:=by simpa using congrArg List.length hq
 refine ⟨fun i x hx=>?_,by rw [hl];exact h.free,h.lt⟩
 have h1:(q.map (·.1))[i]? = some x.1:=by rw [List.getElem?_map,hx];rfl
 rw [hq,List.getElem?_map] at h1
 cases h2:p[i]? with
 | none=>rw [h2] at h1;cases h1
 | some y =>
   rw [h2] at h1
   injection h1 with h1
   rw [←h1];exact h.at_ i y h2
theorem Pages.put (h:Pages w g p) {i o:Nat} {ys:List Int} (hl : ∀ x∈p,x.1.length=128) (ho:o+ys.length≤128) (f:Pg→Pg) (hf : ∀ x,p[i]? = some x→(f x).1=Go.Proofs.Ytajhkncolbgkbaa.put x.1 o ys) :
 Pages (w.setCells g (i * 128+o) (ys.map (Value.int .u8))) g (p.modify i f):=by
 obtain ⟨_,_,_,hsz⟩:=setCells_rest g (ys.map (Value.int .u8)) (i * 128+o) w
 refine ⟨fun k x hx=>?_,?_,by rw [hsz];exact h.lt⟩
 · rw [List.getElem?_modify] at hx
   cases hk:p[k]? with
   | none=>rw [hk] at hx;cases hx
   | some y =>
     have hy:=hl y (List.mem_of_getElem? hk)
     rw [hk] at hx
     by_cases e:i=k
     · subst e
       simp only [if_true] at hx
       replace hx:f y=x:=by injection hx
       subst hx
       rw [hf y hk]
       intro j v hv
       have hi:=(List.getElem?_eq_some_iff.1 hk).1
       rw [List.getElem?_map] at hv
       unfold Go.Proofs.Ytajhkncolbgkbaa.put at hv
       by_cases h1:j<o
       · rw [World.cell?_setCells_out _ _ _ _ _ (fun _ _=>by left;show i * 128+j<_;omega)]
         refine h.at_ i y hk j v ?_
         rw [List.append_assoc,List.getElem?_append_left (by rw [List.length_take];omega),List.getElem?_take,if_pos h1] at hv
         rw [List.getElem?_map];exact hv
       · by_cases h2:j<o+ys.length
         · rw [List.append_assoc,List.getElem?_append_right (by rw [List.length_take];omega),List.length_take,List.getElem?_append_left (by omega)] at hv
           have hj:j - o<(ys.map (Value.int .u8)).length:=by rw [List.length_map];omega
           have:=World.cell?_setCells_in g (ys.map (Value.int .u8)) (i * 128+o) w (fun j' hj'=>by
            have:=(h.there hi (o+j') (by rw [List.length_map] at hj';omega)).1
            rwa [←Nat.add_assoc] at this) (j - o) hj
           rw [show i * 128+o+(j - o)=i * 128+j by omega] at this
           rw [this,←hv]
           rw [show j - min o y.1.length=j - o by omega]
           rw [←List.getElem?_eq_getElem hj,List.getElem?_map]
         · rw [World.cell?_setCells_out _ _ _ _ _ (fun _ _=>by right;show _≤i * 128+j;rw [List.length_map];omega)]
           refine h.at_ i y hk j v ?_
           rw [List.append_assoc,List.getElem?_append_right (by rw [List.length_take];omega),List.length_take,List.getElem?_append_right (by omega),List.getElem?_drop] at hv
           rw [List.getElem?_map,←hv]
           congr 2
           omega
     · simp only [if_neg e] at hx
       replace hx:y=x:=by simpa using hx
       subst hx
       refine World.rangeAt_setCells_apart (h.at_ k y hk) _ _ _ (.inr ?_)
       rw [List.length_map,List.length_map,hy]
       omega
 · rw [List.length_modify]
   exact World.there_setCells h.free _ _ _
end
end
section
open Go.RowKit Go.Maps Go.MapKept Go.ChangeMaps
def encP (xs:List Int):DataW Unit:=.agg (xs.map fun x=>.lit (.int .u8 x))
theorem encP_inj {xs ys:List Int} (h:encP xs=encP ys):xs=ys:=by
 unfold encP at h
 injection h with h
 exact (List.map_inj_right (fun a b e=>by injection e with e;injection e)).1 h
theorem arrV_inj {xs ys:List Int} (h:arrV .u8 xs=arrV .u8 ys):xs=ys:=by
 unfold arrV at h
 injection h with h
 have h:=congrArg Array.toList h
 exact (List.map_inj_right (fun a b e=>by injection e)).1 h
open Classical in
noncomputable def pageE (v:Value):Option (DataW Unit × List MemPlace) :=
 if h : ∃ xs:List Int,v=arrV .u8 xs∧xs.length=128 then some (encP h.choose,[]) else none
theorem pageE_mk {xs:List Int} (h:xs.length=128):pageE (arrV .u8 xs)=some (encP xs,[]):=by
 have he : ∃ ys:List Int,arrV .u8 xs=arrV .u8 ys∧ys.length=128:=⟨xs,rfl,h⟩
 unfold pageE
 rw [dif_pos he,arrV_inj he.choose_spec.1.symm]
theorem pageE_inv {v:Value} {y:DataW Unit × List MemPlace} (h:pageE v=some y) : ∃ xs:List Int,v=arrV .u8 xs∧xs.length=128∧y=(encP xs,[]):=by
 unfold pageE at h
 split at h
 · rename_i he
   injection h with h
   exact ⟨_,he.choose_spec.1,he.choose_spec.2,h.symm⟩
 · cases h
theorem intKeyed:Keyed Try.prog 3:=int_keyed Try.underlying3
theorem keyOf_i {x:Int} (h:(Lit.int .i64 x).wf=true):keyOf Try.prog 3 (.int .i64 x)=some (.int .i64 x):=keyOf_int_mk Try.underlying3 h
theorem wf_nat {i:Nat} (h:i≤9223372036854775807):(Lit.int .i64 (i:Int)).wf=true:=by
 exact WalkArith.wf_i64 ⟨by omega,by omega⟩
def pendI (p:List Pg) (x:Int):Option (List Int):=if 0≤x then p[x.toNat]?.bind (·.2) else none
theorem pendI_nat (p:List Pg) (i:Nat):pendI p (i:Int)=p[i]?.bind (·.2):=by
 unfold pendI
 rw [if_pos (by omega),Int.toNat_natCast]
def PgD (D:DataW Unit) (p:List Pg):Prop :=
 ∀ x:Int,(Lit.int .i64 x).wf=true→has D (.int .i64 x)=(pendI p x).isSome ∧ ∀ n,pendI p x=some n → ∀ z,D.atKey (.int .i64 x) z=encP n
def PgMap (w:World) (b m:Nat) (p:List Pg):Prop := ∃ D,w.ownsMap Try.prog 3 pageE b m D∧PgD D p
section
variable {w w':World} {b m:Nat} {p:List Pg}
theorem PgMap.lt (h:PgMap w b m p):b<w.heap.size:=by obtain ⟨D,h1,_⟩:=h;exact h1.lt
theorem PgMap.chg {S:Nat→Prop} (h:PgMap w b m p) (hc:Chg S w w') (hn : ¬S b):PgMap w' b m p:=by
 obtain ⟨D,h1,h2⟩:=h
 refine ⟨D,?_,h2⟩
 have hlt:=h1.lt
 obtain ⟨es,clock,hb,F,hs,hD⟩:=h1
 exact ⟨es,clock,(hc.block b hlt hn).trans hb,F,hs,hD⟩
theorem PgMap.made (w:World) {p:List Pg} (hp : ∀ x∈p,x.2=none):PgMap (w.alloc (.map #[] 0)) w.heap.size 0 p:=by
 refine ⟨_,World.ownsMap_made w _ _ _,fun x _=>?_⟩
 have h0:pendI p x=none:=by
  unfold pendI
  split
  · cases h:p[x.toNat]? with
    | none=>rfl
    | some y=>exact hp y (List.mem_of_getElem? h)
  · rfl
 rw [h0]
 exact ⟨rfl,fun n h=>by cases h⟩
theorem PgMap.mono (h:PgMap w b m p) {m':Nat} (hm:m≤m'):PgMap w b m' p:=by
 obtain ⟨D,h1,h2⟩:=h
 exact ⟨D,h1.mono hm,h2⟩
theorem zeroPg (w:World):(zeroValue 80).run Try.prog w = .ok (arrV .u8 zer) w:=by kernel_rfl
set_option maxRecDepth 100000 in
theorem PgMap.look (h:PgMap w b m p) {x:Int} (hw:(Lit.int .i64 x).wf=true) :
 (∀ n,pendI p x=some n→(Instr.lookup 76 (.map (some b)) (.int .i64 x) true).run Try.prog w = .ok (.tuple #[arrV .u8 n,.bool true]) w) ∧
 (pendI p x=none→(Instr.lookup 76 (.map (some b)) (.int .i64 x) true).run Try.prog w = .ok (.tuple #[arrV .u8 zer,.bool false]) w):=by
 obtain ⟨D,h1,h2⟩:=h
 obtain ⟨v,ps,hrun,hv⟩:=h1.look_ok intKeyed Try.underlying76 (zeroPg w) (pageE_mk zer_len) (keyOf_i hw)
 obtain ⟨xs,rfl,_,hy⟩:=pageE_inv hv
 obtain ⟨e1,e2⟩:=h2 x hw
 have hat:=congrArg Prod.fst hy
 simp only at hat
 refine ⟨fun n hn=>?_,fun hn=>?_⟩
 · rw [e2 n hn] at hat
   rw [e1,hn] at hrun
   rw [encP_inj hat];exact hrun
 · rw [hn] at e1
   have e1:has D (.int .i64 x)=false:=e1
   rw [atKey_of_not_has e1] at hat
   rw [e1] at hrun
   rw [encP_inj hat];exact hrun
set_option maxRecDepth 100000 in
theorem PgMap.get (h:PgMap w b m p) {x:Int} (hw:(Lit.int .i64 x).wf=true) {n:List Int} (hn:pendI p x=some n) :
 (Instr.lookup 76 (.map (some b)) (.int .i64 x) false).run Try.prog w = .ok (arrV .u8 n) w:=by
 obtain ⟨D,h1,h2⟩:=h
 obtain ⟨v,ps,hrun,hv⟩:=h1.lookup intKeyed Try.underlying76 (zeroPg w) (pageE_mk zer_len) (keyOf_i hw)
 obtain ⟨xs,rfl,_,hy⟩:=pageE_inv hv
 have hat:=congrArg Prod.fst hy
 simp only at hat
 rw [(h2 x hw).2 n hn] at hat
 rw [encP_inj hat];exact hrun
theorem pendI_modify {p:List Pg} {i:Nat} (hi:i<p.length) (f:Pg→Pg) (n:List Int) (hf : ∀ y,p[i]? = some y→(f y).2=some n) (x:Int):pendI (p.modify i f) x=if x=(i:Int) then some n else pendI p x:=by
 unfold pendI
 by_cases h0:0≤x
 · rw [if_pos h0,if_pos h0,List.getElem?_modify]
   by_cases e:x=(i:Int)
   · subst e
     rw [Int.toNat_natCast,if_pos rfl,List.getElem?_eq_getElem hi]
     simp [hf _ (List.getElem?_eq_getElem hi)]
   · rw [if_neg e]
     have : ¬i=x.toNat:=by omega
     simp only [if_neg this]
     cases p[x.toNat]? <;> rfl
 · rw [if_neg h0,if_neg h0,if_neg (by omega)]
set_option maxRecDepth 100000 in
theorem PgMap.put (h:PgMap w b m p) (hm:m<maxLen) {i:Nat} (hi:i<p.length) (hs:i≤9223372036854775807) (f:Pg→Pg) {n:List Int} (hn:n.length=128) (hf : ∀ y,p[i]? = some y→(f y).2=some n) :
 ∃ w',(Instr.mapUpdate 76 (.map (some b)) (.int .i64 (i:Int)) (arrV .u8 n)).run Try.prog w = .ok () w'∧PgMap w' b (m+1) (p.modify i f)∧Chg (· = b) w w':=by
 obtain ⟨D,h1,h2⟩:=h
 have hM:=h1.isMap
 have hw:=wf_nat hs
 obtain ⟨w',hrun,h3,h4⟩:=h1.store intKeyed Try.underlying76 hm (keyOf_i hw) (pageE_mk hn)
 refine ⟨w',hrun,⟨_,h3,fun x hx=>?_⟩,.ofGrown h4.grown⟩
 rw [pendI_modify hi f n hf]
 by_cases e:x=(i:Int)
 · subst e
   rw [if_pos rfl]
   exact ⟨has_put_same hM (intKeyed.key (keyOf_i hw)) _,fun k hk z=>by injection hk with hk;subst hk;exact atKey_put_same hM (intKeyed.key (keyOf_i hw)) _ _⟩
 · have hne:(Lit.int .i64 x) ≠ .int .i64 (i:Int):=fun e'=>e (by injection e')
   rw [if_neg e,has_put_other hne]
   exact ⟨(h2 x hx).1,fun k hk z=>by rw [atKey_put_other hne];exact (h2 x hx).2 k hk z⟩
theorem PgMap.clear (h:PgMap w b m p) (ty:TypeId) {q:List Pg} (hq : ∀ x∈q,x.2=none) :
 ∃ w',(Builtin.clear_ #[76] ty #[.map (some b)]).run Try.prog w = .ok (.tuple #[]) w'∧PgMap w' b m q∧Chg (· = b) w w':=by
 obtain ⟨D,h1,h2⟩:=h
 obtain ⟨es,clock,hb,F,hs,hD⟩:=h1
 refine ⟨Go.ChangeMaps.setBlock w b (.map #[] clock),?_,⟨.map [],⟨#[],clock,heap_setBlock_same hb _,⟨by simp,stamped_empty clock,by simp⟩,Nat.zero_le _,rfl⟩,fun x _=>?_⟩,.ofBlock hb _⟩
 · simp [Builtin.clear_,run_underlying Try.underlying76,MapKept.run_getObj_map hb,MapKept.run_setObj_map _ hb,Result.andThen,Go.ChangeMaps.setBlock]
 · have h0:pendI q x=none:=by
    unfold pendI
    split
    · cases h:q[x.toNat]? with
      | none=>rfl
      | some y=>exact hq y (List.mem_of_getElem? h)
    · rfl
   rw [h0]
   exact ⟨rfl,fun n h=>by cases h⟩
def PgRng (w:World) (b r m:Nat) (p:List Pg) (L:Nat→Bool) (cnt:Nat):Prop :=
 ∃ D left,w.ranges Try.prog 3 pageE b r m D left cnt∧PgD D p ∧ ∀ i:Nat,i<p.length→left (.int .i64 (i:Int))=L i
theorem PgRng.map {r cnt:Nat} {L:Nat→Bool} (h:PgRng w b r m p L cnt):PgMap w b m p:=by
 obtain ⟨D,left,h1,h2,_⟩:=h
 exact ⟨D,h1.owns,h2⟩
theorem PgRng.left_eq {r cnt:Nat} {L:Nat→Bool} (h:PgRng w b r m p L cnt):w.rangeLeft b r=cnt:=by
 obtain ⟨D,left,h1,_,_⟩:=h
 exact h1.left_eq
theorem PgRng.lt {r cnt:Nat} {L:Nat→Bool} (h:PgRng w b r m p L cnt):r<w.heap.size:=by
 obtain ⟨D,left,h1,_,_⟩:=h
 exact h1.lt
theorem PgRng.chg {r cnt:Nat} {L:Nat→Bool} {S:Nat→Prop} (h:PgRng w b r m p L cnt) (hc:Chg S w w') (hb : ¬S b) (hr : ¬S r):PgRng w' b r m p L cnt:=by
 obtain ⟨D,left,h1,h2,h3⟩:=h
 have l1:=h1.owns.lt
 have l2:=h1.lt
 obtain ⟨es,clock,since,seen,c0,k1,k2,k3,k4,k5,k6⟩:=h1
 exact ⟨D,left,⟨es,clock,since,seen,c0,(hc.block b l1 hb).trans k1,k2,k3,k4,(hc.block r l2 hr).trans k5,k6⟩,h2,h3⟩
theorem PgMap.range (h:PgMap w b m p) (hl:p.length≤9223372036854775807) :
 ∃ w' cnt,(Instr.range 76 (.map (some b))).run Try.prog w = .ok (.pointer (some ⟨w.heap.size,0,none⟩)) w'∧PgRng w' b w.heap.size m p (fun i=>(p[i]?.bind (·.2)).isSome) cnt∧Below w.heap.size w w'∧w'.heap.size=w.heap.size+1∧cnt≤m:=by
 obtain ⟨D,h1,h2⟩:=h
 obtain ⟨w',hrun,k1,k2,k3⟩:=h1.range intKeyed Try.underlying76
 refine ⟨w',_,hrun,⟨D,_,k1,h2,fun i hi=>?_⟩,⟨k2.os,k2.tape,k2.output,k2.size,fun i hi=>k2.block i hi (by simp)⟩,k3,h1.size_le⟩
 rw [(h2 i (wf_nat (by omega))).1,pendI_nat]
set_option maxRecDepth 100000 in
theorem PgRng.next {r cnt:Nat} {L:Nat→Bool} (h:PgRng w b r m p L cnt) (_hl:p.length≤9223372036854775807) (ty:TypeId) :
 (cnt=0∧(∀ i,i<p.length→L i=false)∧(Instr.next (.pointer (some ⟨r,0,none⟩)) false ty).run Try.prog w = .ok (.tuple #[.bool false]) w) ∨
 ∃ (i : Nat) (n : List Int) (w' : World) (cnt' : Nat), i < p.length ∧ p[i]?.bind (·.2) = some n ∧ L i = true ∧ (Instr.next (.pointer (some ⟨r, 0, none⟩)) false ty).run Try.prog w = .ok (.tuple #[.bool true, .int .i64 (i : Int), arrV .u8 n]) w' ∧
   PgRng w' b r m p (fun j=>L j && !decide (j=i)) cnt'∧cnt'<cnt∧Chg (· = r) w w'∧w'.heap.size=w.heap.size∧(Instr.entry (.pointer (some ⟨r,0,none⟩))).run Try.prog w' = .ok (.tuple #[.int .i64 (i:Int),arrV .u8 n]) w':=by
 obtain ⟨D,left,h1,h2,h3⟩:=h
 rcases h1.next intKeyed ty with ⟨a1,a2,a3⟩ | ⟨key,v,kl,y,w',cnt',b1,b2,b3,b4,b5,b6,b7,b8,b9,b10⟩
 · exact .inl ⟨a1,fun i hi=>by rw [←h3 i hi];exact a2 _,a3⟩
 · obtain ⟨x,rfl,rfl,hwf⟩:=keyOf_int_inv Try.underlying3 b1
   obtain ⟨xs,rfl,hxs,rfl⟩:=pageE_inv b3
   have hh:=has_true_of_atKey b4
   obtain ⟨e1,e2⟩:=h2 x hwf
   rw [hh] at e1
   cases hp:pendI p x with
   | none=>rw [hp] at e1;cases e1
   | some n =>
     obtain rfl:=encP_inj ((e2 n hp (.map [])).symm.trans (b4 _))
     have h0:0≤x:=by
      unfold pendI at hp
      split at hp
      · assumption
      · cases hp
     obtain ⟨i,rfl⟩:=Int.eq_ofNat_of_zero_le h0
     rw [pendI_nat] at hp
     have hi:i<p.length:=by
      cases hq:p[i]? with
      | none=>rw [hq] at hp;cases hp
      | some q=>exact (List.getElem?_eq_some_iff.1 hq).1
     refine .inr ⟨i,n,w',cnt',hi,hp,by rw [←h3 i hi];exact b2,b5,⟨D,_,b6,h2,fun j hj=>?_⟩,b7,.ofGrown b8,b9,b10⟩
     show (left (.int .i64 (j:Int)) && !(Lit.int .i64 (j:Int)).sameKey (.int .i64 (i:Int)))=_
     rw [h3 j hj]
     congr 2
     by_cases e:j=i
     · subst e
       rw [WideAt.sameKey_self (intKeyed.key (keyOf_i hwf))];simp
     · rw [sameKey_ne (fun e'=>e (by injection e';omega))];simp [e]
end
end
section
open Go.RowKit
theorem chg_cell (w:World) (p o:Nat) (v:Value):Chg (· = p) w (w.setCell ⟨p,o,none⟩ v):=Chg.setCell (S:=(· = p)) (Chg.refl _ _) (.inl rfl) _
structure DkIs (w:World) (p g mb cap m:Nat) (d:Dk):Prop where
 ok:DkOk d
 pos:0<d.p.length
 hcap:d.p.length≤cap∧cap≤maxLen
 kp:Bk w p #[.slice (some ⟨g,0,none⟩) d.p.length cap,.map (some mb),.bool d.off,.int .i64 d.trip] 78
 pg:Pages w g d.p
 km:PgMap w mb m d.p
 ne:p ≠ g∧g ≠ mb∧p ≠ mb
def In3 (p g mb:Nat) (k:Nat):Prop:=k=p∨k=g∨k=mb
section
variable {w w':World} {p g mb cap m:Nat} {d:Dk}
theorem DkIs.chg {S:Nat→Prop} (h:DkIs w p g mb cap m d) (hc:Chg S w w') (hn : ∀ k,In3 p g mb k → ¬S k):DkIs w' p g mb cap m d :=
 ⟨h.ok,h.pos,h.hcap,h.kp.chg hc (hn _ (.inl rfl)),h.pg.chg hc (hn _ (.inr (.inl rfl))),h.km.chg hc (hn _ (.inr (.inr rfl))),h.ne⟩
theorem DkIs.later (h:DkIs w p g mb cap m d) (hb:Below w.heap.size w w'):DkIs w' p g mb cap m d:=h.chg (.ofBelow hb (fun _=>False)) (fun _ _ e=>e)
theorem DkIs.lt (h:DkIs w p g mb cap m d):p<w.heap.size∧g<w.heap.size∧mb<w.heap.size:=⟨h.kp.lt,h.pg.lt,h.km.lt⟩
theorem DkIs.mono (h:DkIs w p g mb cap m d) {m':Nat} (hm:m≤m'):DkIs w p g mb cap m' d:=⟨h.ok,h.pos,h.hcap,h.kp,h.pg,h.km.mono hm,h.ne⟩
end
theorem is_any (w:World) (p g mb cap m:Nat) (d:Dk) (h:DkIs w p g mb cap m d) (i:Int) :
 Calls Try.prog 46 #[.pointer (some ⟨p,0,none⟩),.int .i64 i] w fun e w'=>e = .returned (.bool (d.is i))∧w=w':=by
 have c0:=h.kp.cell 0 rfl
 unfold Dk.is
 have hl:=h.ok.few
 clear h
 generalize d.p.length=n at *
 by_cases h0:0≤i
 · have t0:decide (0≤i)=true:=by simpa using h0
   go_enter Try.func46,Try.ntmps46
   go_wp2
   go_ret
   exact ⟨ret_bool (by simp [h0]),rfl⟩
 · have t0:decide (0≤i)=false:=by simpa using h0
   go_enter Try.func46,Try.ntmps46
   go_wp2
   go_ret
   exact ⟨ret_bool (by simp),rfl⟩
theorem dklen_any (w:World) (p g mb cap m:Nat) (d:Dk) (h:DkIs w p g mb cap m d) :
 Calls Try.prog 36 #[.pointer (some ⟨p,0,none⟩)] w fun e w'=>e = .returned (.int .i64 (d.p.length:Int))∧w=w':=by
 have c0:=h.kp.cell 0 rfl
 clear h
 go_enter Try.func36,Try.ntmps36
 go_wp2
 go_ret
 exact ⟨rfl,rfl⟩
theorem DkIs.put {w:World} {p g mb cap m:Nat} {d:Dk} (h:DkIs w p g mb cap m d) (d':Dk) (w':World) (hp:d'.p=d.p) (ht : -1≤d'.trip∧d'.trip≤9223372036854775807)
 (hk:Bk w' p #[.slice (some ⟨g,0,none⟩) d.p.length cap,.map (some mb),.bool d'.off,.int .i64 d'.trip] 78) (hc:Chg (· = p) w w'):DkIs w' p g mb cap m d' :=
 ⟨⟨by rw [hp]; exact h.ok.pages, ht.1, ht.2, by rw [hp]; exact h.ok.few⟩, by rw [hp]; exact h.pos, by rw [hp]; exact h.hcap, by rw [hp]; exact hk,
   by rw [hp];exact h.pg.chg hc (fun e=>h.ne.1 e.symm),by rw [hp];exact h.km.chg hc (fun e=>h.ne.2.2 e.symm),h.ne⟩
theorem trip_any (w:World) (p g mb cap m:Nat) (d:Dk) (h:DkIs w p g mb cap m d) (n:Int) (hn : -9223372036854775808≤n∧n≤9223372036854775807) :
 Calls Try.prog 15 #[.pointer (some ⟨p,0,none⟩),.int .i64 n] w fun e w'=>e = .returned (.tuple #[])∧DkIs w' p g mb cap m (d.setTrip n)∧Chg (· = p) w w':=by
 have H:=Bx.mk h
 have c3:=h.kp.cell 3 rfl
 have f3:=h.kp.frozen 3
 have hm:(if n < -1 then -1 else n)=max n (-1):=by omega
 clear h
 go_enter Try.func15,Try.ntmps15
 go_wp2
 go_end0
 exact ⟨rfl,H.out.put _ _ rfl ⟨by show -1≤max n (-1);omega,by show max n (-1)≤_;omega⟩ (H.out.kp.set 3 _) (chg_cell _ _ _ _),chg_cell _ _ _ _⟩
def StepPost (p g mb cap m:Nat) (w:World) (d':Dk) (n:Int) (e:Ending) (w':World):Prop:=e = .returned (.int .i64 n)∧DkIs w' p g mb cap m d'∧Chg (· = p) w w'
def errS (b:Bool):Int:=if b=true then 0 else 20
theorem step_any (w:World) (p g mb cap m:Nat) (d:Dk) (h:DkIs w p g mb cap m d) :
 Calls Try.prog 35 #[.pointer (some ⟨p,0,none⟩)] w (StepPost p g mb cap m w d.step.1 (errS d.step.2)):=by
 have H:=Bx.mk h
 have c2:=h.kp.cell 2 rfl
 have f2:=h.kp.frozen 2
 have c3:=h.kp.cell 3 rfl
 have f3:=h.kp.frozen 3
 have b1:=h.ok.lo
 have b2:=h.ok.hi
 have K2 : ∀ v,Bk (w.setCell ⟨p,2,none⟩ v) p #[.slice (some ⟨g,0,none⟩) d.p.length cap,.map (some mb),v,.int .i64 d.trip] 78:=fun v=>h.kp.set 2 v
 have K3 : ∀ v,Bk (w.setCell ⟨p,3,none⟩ v) p #[.slice (some ⟨g,0,none⟩) d.p.length cap,.map (some mb),.bool d.off,v] 78:=fun v=>h.kp.set 3 v
 clear h
 by_cases h0:d.trip=0
 · have ht:decide (d.trip=0)=true:=by simpa using h0
   have t0:(d.trip == 0)=true:=by simpa using h0
   have hs:d.step=({ d with off:=true },false):=by unfold Dk.step;rw [if_pos h0]
   rw [hs]
   have HK:=Bx.mk fun hk=>H.out.put { d with off:=true } (w.setCell ⟨p,2,none⟩ (.bool true)) rfl ⟨b1,b2⟩ hk (chg_cell _ _ _ _)
   have HJ:=Bx.mk (HK.out (K2 _))
   clear h0 K2 K3 H hs HK
   generalize ({ d with off:=true }:Dk)=d' at *
   generalize d.trip=T at *
   generalize d.off=O at *
   go_enter Try.func35,Try.ntmps35
   go_wp2
   go_ret
   exact ⟨rfl,HJ.out,chg_cell _ _ _ _⟩
 · have ht:decide (d.trip=0)=false:=by simpa using h0
   have t0:(d.trip == 0)=false:=by simpa using h0
   by_cases h1:0<d.trip
   · have hs:d.step=({ d with trip:=d.trip - 1 },true):=by unfold Dk.step;rw [if_neg h0,if_pos h1]
     rw [hs]
     have HK:=Bx.mk fun hk=>H.out.put { d with trip:=d.trip - 1 } (w.setCell ⟨p,3,none⟩ (.int .i64 (d.trip - 1))) rfl ⟨by show -1≤d.trip - 1;omega,by show d.trip - 1≤_;omega⟩ hk (chg_cell _ _ _ _)
     have HJ:=Bx.mk (HK.out (K3 _))
     clear h0 K2 K3 H hs HK
     generalize ({ d with trip:=d.trip - 1 }:Dk)=d' at *
     generalize d.trip=T at *
     generalize d.off=O at *
     have t1:decide (0<T)=true:=by simpa using h1
     go_enter Try.func35,Try.ntmps35
     go_wp2
     go_ret
     exact ⟨rfl,HJ.out,chg_cell _ _ _ _⟩
   · have hs:d.step=(d,true):=by unfold Dk.step;rw [if_neg h0,if_neg h1]
     rw [hs]
     clear h0 K2 K3 hs
     have t1:decide (0<d.trip)=false:=by simpa using h1
     generalize hT:d.trip=T at *
     have hT:=Bx.mk hT
     go_enter Try.func35,Try.ntmps35
     go_wp2
     go_ret
     exact ⟨rfl,H.out,Chg.refl _ _⟩
theorem row_cells (xs:List Int) (k:IntKind):(xs.map (Value.int k)).toArray.size=xs.length:=by simp
theorem pgInfo : ∀ cs:Array Value,cs.size=128→(Try.prog.info? 80).map (·.size)=some cs.size:=fun cs h=>by rw [h];kernel_rfl
set_option maxRecDepth 100000 in
theorem text_any (w:World) (xs:List Int) (hl:xs.length=128) :
 Calls Try.prog 53 #[arrV .u8 xs] w fun e w'=>e = .returned (.string (strOfNums xs))∧Below w.heap.size w w':=by
 have hsl:Sl (w.alloc (.cells (xs.map (Value.int .u8)).toArray 80)) .u8 (some ⟨w.heap.size,0,none⟩) xs:=fun i x hx=>⟨_,0,rfl,by rw [Nat.zero_add];exact cells_new _ _ _ _ _ (by rw [List.getElem?_toArray,List.getElem?_map,hx];rfl)⟩
 have hcv:=conv_str (P:=Try.prog) 66 5 9 Try.underlying66 Try.underlying5 Try.underlying9 hsl 128 128 hl.symm
 clear hl hsl
 unfold arrV
 generalize (xs.map (Value.int .u8)).toArray=cs at *
 go_enter Try.func53,Try.ntmps53
 go_wp2_with fail
 go_ret
 exact ⟨rfl,(Below.refl _ _).alloc (Nat.le_refl _) _⟩
theorem mkDk_ok (n:Nat) (h:n≤120):DkOk (mkDk n):=by
 refine ⟨fun x hx=>?_,by show (-1:Int) ≤ -1;omega,by show (-1:Int)≤_;omega,by unfold mkDk;rw [List.length_replicate];exact h⟩
 unfold mkDk at hx
 simp only [List.mem_replicate] at hx
 rw [hx.2]
 exact ⟨zer_len,byt_zer,fun n h=>by cases h⟩
def NewPost (n:Nat) (w:World) (e:Ending) (w':World):Prop :=
 ∃ p g mb,e = .returned (.tuple #[.pointer (some ⟨p,0,none⟩),.int .i64 0])∧DkIs w' p g mb n 0 (mkDk n)∧w.heap.size≤p∧w.heap.size≤g∧w.heap.size≤mb∧Below w.heap.size w w'
theorem pgAll:(Try.prog.info? 80).map (fun i=>(i.zero,i.size,i.bytes))=some (some (arrV .u8 zer),128,128):=by kernel_rfl
def zcells (n:Nat):Array Value:=(List.replicate (n * 128) (Value.int .u8 0)).toArray
theorem zer_get {i:Nat} {x:Int} (h:zer[i]? = some x):x=0:=by
 have:=List.mem_of_getElem? h
 unfold zer at this
 exact (List.mem_replicate.1 this).2
set_option maxRecDepth 100000 in
theorem made_zer (n:Nat):madeCells (arrV .u8 zer).cells (n * 128)=zcells n:=by
 apply Array.ext
 · simp [madeCells,zcells]
 · intro i h1 h2
   have hc:(arrV .u8 zer).cells=(zer.map (Value.int .u8)).toArray:=rfl
   have hs:((zer.map (Value.int .u8)).toArray).size=128:=by rw [row_cells,zer_len]
   have hl:i % 128<(zer.map (Value.int .u8)).toArray.size:=by rw [hs];omega
   have h3:(madeCells (arrV .u8 zer).cells (n * 128))[i]=(zer.map (Value.int .u8)).toArray[i % 128]! := by
    simp only [madeCells,Array.getElem_map,Array.getElem_range,hc,hs]
   rw [h3,getElem!_pos (zer.map (Value.int .u8)).toArray (i % 128) hl]
   have h4:(zcells n)[i]=Value.int .u8 0:=by
    have : ∀ h,((List.replicate (n * 128) (Value.int .u8 0)).toArray)[i]'h=Value.int .u8 0:=fun h=>by rw [List.getElem_toArray,List.getElem_replicate]
    exact this _
   rw [h4,List.getElem_toArray,List.getElem_map]
   have h5:zer[i % 128]? = some (zer[i % 128]'(by rw [zer_len];omega)):=List.getElem?_eq_getElem _
   rw [zer_get h5]
theorem made_pages (W:World) (n:Nat) (hn:n≤120):(Instr.makeSlice 75 (.int .i64 (n:Int)) (.int .i64 (n:Int))).run Try.prog W = .ok (.slice (some ⟨W.heap.size,0,none⟩) n n) (W.alloc (.cells (zcells n) 80)):=by
 obtain ⟨i0,hi0,hz0,hz1,hz2⟩:=info_parts pgAll
 have:=run_make W 75 80 i0 _ Try.underlying75 hi0 hz0 .i64 .i64 (n:Int) (n:Int) (by omega) (Int.le_refl _) (by rw [hz2];omega) (by omega)
 rw [hz1,Int.toNat_natCast,made_zer] at this
 exact this
theorem pages_made (w:World) (n:Nat) (t:TypeId):Pages (w.alloc (.cells (zcells n) t)) w.heap.size (List.replicate n (zer,none)):=by
 have hc : ∀ j,j<n * 128→(w.alloc (.cells (zcells n) t)).cell? ⟨w.heap.size,j,none⟩=some (.int .u8 0):=fun j hj=>cells_new _ _ _ _ _ (by unfold zcells;rw [List.getElem?_toArray,List.getElem?_replicate,if_pos hj])
 refine ⟨fun i x hx j v hv=>?_,fun j hj=>?_,by simp⟩
 · rw [List.getElem?_replicate] at hx
   split at hx
   · injection hx with hx
     subst hx
     rw [List.getElem?_map] at hv
     cases hz:zer[j]? with
     | none=>rw [hz] at hv;cases hv
     | some y =>
       rw [hz] at hv
       obtain rfl:=zer_get hz
       have hj:=(List.getElem?_eq_some_iff.1 hz).1
       rw [zer_len] at hj
       injection hv with hv
       rw [←hv]
       exact hc _ (by omega)
   · cases hx
 · rw [List.length_replicate] at hj
   rw [Nat.zero_add,hc j hj]
   exact ⟨rfl,frozen_new _ _ _ _⟩
theorem new_ok (w:World) (n:Nat) (h1:1≤n) (h2:n≤120):Calls Try.prog 14 #[.int .i64 (n:Int)] w (NewPost n w):=by
 have h3 : ¬(n:Int)<1:=by omega
 have h4:(n:Int)≤4096:=by omega
 have hmk:=fun W=>made_pages W n h2
 have hmm:=@run_makeMap Try.prog
 go_enter Try.func14,Try.ntmps14
 go_wp2
 go_ret2
 have hpg:=pages_made w n 80
 generalize hz:zcells n=Z at *
 have e1:=PgMap.made (w.alloc (.cells Z 80)) (p:=List.replicate n (zer,none)) (fun x hx=>by rw [(List.mem_replicate.1 hx).2])
 rw [show (w.alloc (.cells Z 80)).heap.size=w.heap.size+1 by simp] at e1
 have b2:=(Below.refl (w.alloc (.cells Z 80)).heap.size _).alloc (Nat.le_refl _) (.map #[] 0)
 refine ⟨w.heap.size+1+1,w.heap.size,w.heap.size+1,rfl,⟨mkDk_ok n h2,?_,?_,?_,?_,?_,by omega,by omega,by omega⟩,by omega,by omega,by omega,?_⟩
 · show 0<(List.replicate n (zer,none)).length
   rw [List.length_replicate];omega
 · show (List.replicate n (zer,none)).length≤n∧n≤maxLen
   rw [List.length_replicate];unfold maxLen;omega
 · show Bk _ _ #[.slice _ (List.replicate n (zer,none)).length n,_,_,_] _
   rw [List.length_replicate]
   exact blk_new _ _ _ (by simp)
 · exact (hpg.later b2).later ((Below.refl _ _).alloc (Nat.le_refl _) _)
 · exact e1.chg (.ofBelow ((Below.refl _ _).alloc (Nat.le_refl _) _) (fun _=>False)) (fun e=>e)
 · exact (((Below.refl _ _).alloc (Nat.le_refl _) _).alloc (by simp) _).alloc (by simp;omega) _
end
end Go.Proofs.Ytajhkncolbgkbaa
