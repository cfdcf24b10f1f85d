/- Dec: joined by program, for one claim. -/
import Derived.Test.YtgnfgblkpnfcnaaGreatDoorM2
set_option linter.unusedVariables false
set_option linter.unusedSimpArgs false
section
namespace Go.Proofs.YtgnfgblkpnfcnaaGreatDoor
open Go.Sort Go.RowKit
@[go_sem] def Oper.calmUpon (P : Program) (w : World) (v : Value) : Result Next → Prop
  | .ok (.value u) w'=>w'=w∧u=v
  | .ok .skip w'=>w'=w∧v=undef
  | .ok (.enter f args) w'=>w'=w∧Calls P f args w (fun e w''=>e = .returned v∧Below w.heap.size w w'')
  | _=>False
@[go_sem] def Oper.calmAt (P:Program) (o:Oper) (a:Act) (w:World) (v:Value):Prop:=calmUpon P w v ((execOp a.eval o).run P w)
def zOI (P:Program) (W:World) (Q:Act→Prop):List Oper→Act→Prop
 | [],a=>Q a
 | o::rest,a => ∃ v,(∀ p:Regrown,Oper.calmAt P o a (grow (redrawn W p.d) p.os) v)∧zOI P W Q rest (a.put o.dst v)
theorem zOJ {P:Program} {W:World} {Q:Act→Prop} {a:Act} (h:Q a):zOI P W Q [] a:=h
theorem zAE {P:Program} {W:World} {Q:Act→Prop} {a:Act} {o:Oper} {rest:List Oper}
 (h : ∀ K:Act→Prop,(∀ a,zOI P W Q rest a→K a) → ∃ v,(∀ p:Regrown,Oper.calmAt P o a (grow (redrawn W p.d) p.os) v)∧K (a.put o.dst v)):zOI P W Q (o::rest) a :=
 h _ (fun _ h=>h)
def zKA (L:List (Option Tmp × Value)) (a:Act):Act:=L.foldl (fun a p=>a.put p.1 p.2) a
theorem zJ7 (a:Act) (d:Option Tmp) (v:Value):(a.put d v).tmps.size=a.tmps.size:=by cases d <;> simp [Act.put]
theorem zJ1 (a:Act) (d:Option Tmp) (v:Value):(a.put d v).defers=a.defers:=by cases d <;> simp [Act.put]
theorem zJ6 {a:Act} {d:Tmp} (v:Value) (h:d<a.tmps.size):(a.put (some d) v).tmps[d]? = some v:=by simp [Act.put,h]
theorem zq {a:Act} {d:Option Tmp} {x:Tmp} (v:Value) (h:d ≠ some x):(a.put d v).tmps[x]? = a.tmps[x]? := by
 cases d with
 | none=>rfl
 | some d=>simp only [Act.put];rw [Array.getElem?_setIfInBounds_ne (fun e=>h (by rw [e]))]
theorem zKD : ∀ (L:List (Option Tmp × Value)) (a:Act),(zKA L a).tmps.size=a.tmps.size∧(zKA L a).defers=a.defers
 | [],_=>⟨rfl,rfl⟩
 | p :: L, a => by
   obtain ⟨h1,h2⟩:=zKD L (a.put p.1 p.2);rw [zJ7] at h1;rw [zJ1] at h2;exact ⟨h1,h2⟩
theorem zKC : ∀ (L:List (Option Tmp × Value)) (a:Act) (x:Tmp),(∀ p∈L,p.1 ≠ some x)→(zKA L a).tmps[x]? = a.tmps[x]?
 | [],_,_,_=>rfl
 | p :: L, a, x, h => by
   show (zKA L (a.put p.1 p.2)).tmps[x]? = _
   rw [zKC L _ x (fun q hq=>h q (List.mem_cons_of_mem _ hq)),zq _ (h p (by simp))]
theorem zKB : ∀ (L:List (Option Tmp × Value)) (a:Act) (x:Tmp) (v:Value),x<a.tmps.size→L.Pairwise (fun p q => ∀ d,p.1=some d→q.1 ≠ some d)→(some x,v)∈L→(zKA L a).tmps[x]? = some v
 | [],_,_,_,_,_,h=>by simp at h
 | p :: L, a, x, v, hx, hp, h => by
   show (zKA L (a.put p.1 p.2)).tmps[x]? = _
   rw [List.pairwise_cons] at hp;rcases List.mem_cons.1 h with rfl | h
   · rw [zKC L _ x (fun q hq=>hp.1 q hq x rfl),zJ6 _ hx]
   · exact zKB L _ x v (by rw [zJ7];exact hx) hp.2 h
theorem zAi {a b:Act} (h1:a.defers=b.defers) (h2 : ∀ x:Nat,a.tmps[x]? = b.tmps[x]?):a=b:=by
 obtain ⟨at',ad⟩:=a;obtain ⟨bt,bd⟩:=b;simp only at h1 h2;rw [h1,Array.ext_getElem? h2]
def zM (l:List Oper) (i:Nat):Option Tmp:=(l[i]?).bind (·.dst)
theorem zB5 {P:Program} {W:World} {Q:Act→Prop} : ∀ (L:List Oper) (a:Act),zOI P W Q L a → ∃ vs:List Value,vs.length=L.length∧Q (zKA ((L.map (·.dst)).zip vs) a) ∧
 ∀ i o v,L[i]? = some o→vs[i]? = some v → ∀ p:Regrown,Oper.calmAt P o (zKA (((L.map (·.dst)).zip vs).take i) a) (grow (redrawn W p.d) p.os) v
 | [],a,h=>⟨[],rfl,h,fun i o v hi=>by simp at hi⟩
 | o :: L, a, h => by
   obtain ⟨v,hv,h⟩:=h;obtain ⟨vs,h1,h2,h3⟩:=zB5 L _ h;refine ⟨v::vs,by simp [h1],h2,fun i o' v' hi hv' p=>?_⟩
   cases i with
   | zero=>simp at hi hv';subst hi;subst hv';exact hv p
   | succ i=>exact h3 i o' v' (by simpa using hi) (by simpa using hv') p
structure DeclOps (P:Program) (l:List Oper) (n k:Nat) (sl u:Nat→Tmp) (T:Nat→TypeId) (z vs:Nat→Array Value):Prop where
 al : ∀ j,j<k → ∃ o,l[n+j]? = some o∧o.guard=none∧o.dst=some (sl j) ∧ ∀ ρ w,(execOp ρ o).run P w = .ok (.value (.pointer (some ⟨w.heap.size,0,none⟩))) (w.alloc (.cells (z j) (T j)))
 st : ∀ j,j<k → ∃ o,l[n+k+j]? = some o∧o.guard=none∧o.dst=none ∧ ∀ ρ w g,ρ (.tmp (sl j)) = .pointer (some ⟨g,0,none⟩)→ρ (.tmp (u j)) = .agg (vs j)→Bk w g (z j) (T j) →
  ∃ w',(execOp ρ o).run P w = .ok .skip w'∧Bk w' g (vs j) (T j)∧w.grownBy w' (some g)∧w'.heap.size=w.heap.size
def zDJ (l:List Oper) (n k:Nat) (u:Nat→Tmp):Bool :=
 decide (l.length=n+k+k) && zBV .any l (n+k+k) && Region.noSelect l.toArray &&
 ((List.range n).all fun i => match l[i]? with
   | some o => o.guard.isNone && o.op.operands.toList.all fun x => match x with
     | .tmp d=>(List.range (n+k+k)).all fun j => !decide (zM l j=some d) || (decide (j<i) && Region.waitsFor .any l.toArray i j)
     | _=>true
   | none=>false) &&
 ((List.range (n+k+k)).all fun i=>(List.range (n+k+k)).all fun j=>decide (i=j) || (zM l i).isNone || !decide (zM l i=zM l j)) &&
 ((List.range k).all fun j=>Region.waitsFor .any l.toArray (n+k+j) (n+j) && (List.range n).any fun h=>decide (zM l h=some (u j)) && Region.waitsFor .any l.toArray (n+k+j) h)
section
variable {P:Program} {l:List Oper} {n k:Nat} {sl u:Nat→Tmp} {T:Nat→TypeId} {z vs:Nat→Array Value} {W:World} {a:Act} {hv:List Value}
structure DeclB (l:List Oper) (n k:Nat) (u:Nat→Tmp):Prop where
 len:l.length=n+k+k
 back:zBV .any l (n+k+k)=true
 nosel:Region.noSelect l.toArray=true
 guard : ∀ i o,i<n→l[i]? = some o→o.guard=none
 data : ∀ i o d j,i<n→l[i]? = some o → .tmp d∈o.op.operands→j<n+k+k→zM l j=some d→j<i∧Region.waitsFor .any l.toArray i j=true
 dist : ∀ i j d,i<n+k+k→j<n+k+k→i ≠ j→zM l i=some d→zM l j ≠ some d
 sta : ∀ j,j<k→Region.waitsFor .any l.toArray (n+k+j) (n+j)=true
 sth : ∀ j,j<k → ∃ h,h<n∧zM l h=some (u j)∧Region.waitsFor .any l.toArray (n+k+j) h=true
theorem zDK (h:zDJ l n k u=true):DeclB l n k u:=by
 simp only [zDJ,Bool.and_eq_true,decide_eq_true_eq] at h;obtain ⟨⟨⟨⟨⟨h1,h2⟩,h3⟩,h4⟩,h5⟩,h6⟩:=h;refine ⟨h1,h2,h3,fun i o hi ho=>?_,fun i o d j hi ho hd hj hdj=>?_,fun i j d hi hj hne hdi hdj=>?_,fun j hj=>?_,fun j hj=>?_⟩
 · have:=List.all_eq_true.1 h4 i (List.mem_range.2 hi);simp only [ho,Bool.and_eq_true,Option.isNone_iff_eq_none] at this;exact this.1
 · have:=List.all_eq_true.1 h4 i (List.mem_range.2 hi);simp only [ho,Bool.and_eq_true] at this;have:=List.all_eq_true.1 this.2 (.tmp d) (by simpa using hd)
   have:=List.all_eq_true.1 this j (List.mem_range.2 hj);simpa [hdj] using this
 · have:=List.all_eq_true.1 (List.all_eq_true.1 h5 i (List.mem_range.2 hi)) j (List.mem_range.2 hj);simp [hne,hdi,hdj] at this
 · have:=List.all_eq_true.1 h6 j (List.mem_range.2 hj);simp only [Bool.and_eq_true] at this;exact this.1
 · have:=List.all_eq_true.1 h6 j (List.mem_range.2 hj);simp only [Bool.and_eq_true] at this;obtain ⟨h,hh,h7⟩:=List.any_eq_true.1 this.2;simp only [Bool.and_eq_true,decide_eq_true_eq] at h7;exact ⟨h,List.mem_range.1 hh,h7.1,h7.2⟩
structure DI (l:List Oper) (n k:Nat) (sl:Nat→Tmp) (T:Nat→TypeId) (z vs:Nat→Array Value) (W:World) (a:Act) (hv:List Value) (s:Array Bool) (a':Act) (w':World):Prop where
 size:s.size=n+k+k
 tsize:a'.tmps.size=a.tmps.size
 defers:a'.defers=a.defers
 old : ∀ x:Nat,(∀ i,s.getD i false=true→zM l i ≠ some x)→a'.tmps[x]? = a.tmps[x]?
 head : ∀ i d v,i<n→s.getD i false=true→zM l i=some d→hv[i]? = some v→a'.tmps[d]? = some v
 below:Below W.heap.size W w'
 al : ∀ j,j<k→s.getD (n+j) false=true → ∃ g,a'.tmps[sl j]? = some (.pointer (some ⟨g,0,none⟩))∧W.heap.size≤g∧Bk w' g (if s.getD (n+k+j) false=true then vs j else z j) (T j)
 ne : ∀ i j g,i<k→j<k→i ≠ j→s.getD (n+i) false=true→s.getD (n+j) false=true→a'.tmps[sl i]? = some (.pointer (some ⟨g,0,none⟩))→a'.tmps[sl j]? ≠ some (.pointer (some ⟨g,0,none⟩))
 cl : ∀ j,j<k→s.getD (n+k+j) false=true→s.getD (n+j) false=true
theorem zEe {s:Array Bool} {i:Nat} (h:i<s.size):(s.setIfInBounds i true).getD i false=true:=by simp [Array.getD_eq_getD_getElem?,h]
theorem zJu {g g':Nat} (h:(some (Value.pointer (some ⟨g,0,none⟩)):Option Value)=some (.pointer (some ⟨g',0,none⟩))):g=g':=by simpa using h
theorem zN2 {s:Array Bool} {i j:Nat} (h:Region.waitsFor .any l.toArray i j=true) (hr:i∈Region.ready .any l.toArray s):s.getD j false=true:=by
 obtain ⟨o,ho,e,he,hb,hon⟩:=Region.waitsFor_spec h;obtain ⟨_,o',ho',hall⟩:=mem_ready.1 hr;obtain rfl:o=o':=Option.some.inj (ho.symm.trans ho');have:=hall e he hb;rwa [hon] at this
theorem zD6 {a b:Act} {d:Tmp} (h:a.tmps[d]? = b.tmps[d]?):a.eval (.tmp d)=b.eval (.tmp d):=by
 simp only [Act.eval,Array.getD_eq_getD_getElem?,h]
theorem zBY {W w w':World} {g:Nat} (h:Below W.heap.size W w) (hg:w.grownBy w' (some g)) (hW:W.heap.size≤g):Below W.heap.size W w' :=
 h.grown hg h.size (fun k hk=>by cases hk;exact hW)
theorem zLA {W w:World} (h:Below W.heap.size W w) : ∃ p:Regrown,w=grow (redrawn W p.d) p.os:=regrown_of_below h
theorem zDU (B:DeclB l n k u) (D:DeclOps P l n k sl u T z vs) (hlen:hv.length=n)
 (hcalm : ∀ i o v,i<n→l[i]? = some o→hv[i]? = some v → ∀ p:Regrown,Oper.calmAt P o (zKA ((((l.take n).map (·.dst)).zip hv).take i) a) (grow (redrawn W p.d) p.os) v)
 (hsz : ∀ i d,i<n+k+k→zM l i=some d→d<a.tmps.size)
 (hu : ∀ j,j<k → ∀ h,h<n→zM l h=some (u j)→hv[h]? = some (.agg (vs j)))
 {Q:Exit→Act→World→Prop} {s:Array Bool} {a':Act} {w':World} (I:DI l n k sl T z vs W a hv s a' w') {i:Nat} (hr:i∈Region.ready .any l.toArray s) :
 wpOp P l.toArray Q i (fun a'' w''=>DI l n k sl T z vs W a hv (s.setIfInBounds i true) a'' w'') a' w':=by
 obtain ⟨hun,o,ho,hall⟩:=mem_ready.1 hr;have hil:i<n+k+k:=by have:=(Array.getElem?_eq_some_iff.1 ho).1;simp [B.len] at this;exact this
 have hi's:i<s.size:=by rw [I.size];exact hil
 have hol:l[i]? = some o:=by simpa using ho
 have hdo:zM l i=o.dst:=by simp [zM,hol]
 have hnew : ∀ j,j ≠ i→(s.setIfInBounds i true).getD j false=s.getD j false:=fun j hj=>getD_set_ne false (Ne.symm hj);have hself:=zEe hi's
 have hnf:s.getD i false=false:=by
  cases hx:s.getD i false with
  | false=>rfl
  | true=>have:=getD_both hun;rw [hx] at this;cases this
 have put_old : ∀ v (x:Nat),(∀ j,(s.setIfInBounds i true).getD j false=true→zM l j ≠ some x)→(a'.put o.dst v).tmps[x]? = a.tmps[x]? := fun v x hx=>by
  have h1:=hx i hself;rw [hdo] at h1;rw [zq v h1];refine I.old x fun j hj=>hx j ?_;by_cases e:j=i
  · subst e;exact hself
  · rw [hnew j e];exact hj
 unfold wpOp;simp only [ho];rcases Nat.lt_or_ge i n with hin | hge
 · -- an operation of the head
   have hg:=B.guard i o hin hol;have hw:Region.wanted o (yielded l.toArray a'.tmps)=true:=by simp [Region.wanted,hg]
   rw [if_pos hw];left;obtain ⟨v,hvi⟩ : ∃ v,hv[i]? = some v:=⟨_,List.getElem?_eq_getElem (by omega)⟩
   obtain ⟨p,rfl⟩:=zLA I.below;have hc:=hcalm i o v hin hol hvi p
   -- the operands read as in the text's own order
   have hev:execOp a'.eval o=execOp (zKA ((((l.take n).map (·.dst)).zip hv).take i) a).eval o:=by
    refine execOp_congr o (Region.noSelect_spec B.nosel i o · · ho) fun x hx=>?_;cases x with
    | tmp d =>
      refine zD6 ?_;by_cases hw : ∃ j,j<n+k+k∧zM l j=some d
      · obtain ⟨j,hj,hdj⟩:=hw;obtain ⟨hji,hwt⟩:=B.data i o d j hin hol hx hj hdj;have hlj:=zN2 hwt hr;obtain ⟨vj,hvj⟩ : ∃ v,hv[j]? = some v:=⟨_,List.getElem?_eq_getElem (by omega)⟩
        rw [I.head j d vj (by omega) hlj hdj hvj]
        symm;apply zKB
        · exact hsz j d hj hdj
        · rw [List.pairwise_iff_getElem];intro p q hp hq hpq d' h1 h2;simp only [List.length_take,List.length_zip,List.length_map] at hp hq;simp only [List.getElem_take,List.getElem_zip,List.getElem_map] at h1 h2;refine B.dist p q d' (by omega) (by omega) (by omega) ?_ ?_
          · simp only [zM,List.getElem?_eq_getElem (show p<l.length by have:=B.len;omega),Option.bind_some];exact h1
          · simp only [zM,List.getElem?_eq_getElem (show q<l.length by have:=B.len;omega),Option.bind_some];exact h2
        · rw [List.mem_iff_getElem?];refine ⟨j,?_⟩;rw [List.getElem?_take,if_pos hji,List.getElem?_zip_eq_some];refine ⟨?_,hvj⟩;rw [List.getElem?_map,List.getElem?_take,if_pos (by omega)]
          unfold zM at hdj;cases hlj':l[j]? with
          | none=>simp [hlj'] at hdj
          | some oj=>simp [hlj'] at hdj;simp [hdj]
      · rw [I.old d fun j hj e=>hw ⟨j,by
         rw [←I.size];rcases Nat.lt_or_ge j s.size with h | h
         · exact h
         · simp [Array.getD_eq_getD_getElem?,Array.getElem?_eq_none h] at hj,e⟩]
        symm;apply zKC;intro p hp e;obtain ⟨q,hq⟩:=List.mem_iff_getElem?.1 hp;rw [List.getElem?_take] at hq;split at hq
        · rename_i hqi;obtain ⟨p1,p2⟩:=p;obtain ⟨hq1,_⟩:=List.getElem?_zip_eq_some.1 hq;rw [List.getElem?_map,List.getElem?_take,if_pos (by omega)] at hq1
          refine hw ⟨q,by omega,?_⟩
          unfold zM;cases hlq:l[q]? with
          | none=>simp [hlq] at hq1
          | some oq=>simp [hlq] at hq1;simp only at e;simp [hq1,e]
        · cases hq
    | const v=>rfl
    | global g=>rfl
    | func f=>rfl
   have post : ∀ w'',Below (grow (redrawn W p.d) p.os).heap.size (grow (redrawn W p.d) p.os) w''→DI l n k sl T z vs W a hv (s.setIfInBounds i true) (a'.put o.dst v) w'':=by
    intro w'' hb
    have far : ∀ j,j<k→o.dst ≠ some (sl j):=fun j hj e=>by
     obtain ⟨oa,ha1,_,ha2,_⟩:=D.al j hj;exact B.dist i (n+j) (sl j) hil (by omega) (by omega) (by rw [hdo];exact e) (by simp [zM,ha1,ha2])
    refine ⟨by simp [I.size],by rw [zJ7,I.tsize],by rw [zJ1,I.defers],put_old v,fun j d vj hj hs hdj hvj=>?_,I.below.trans (hb.mono I.below.size),fun j hj hs=>?_,fun j j' g hj hj' hne h1 h2 h3=>?_,fun j hj hs=>by rw [hnew _ (by omega)] at hs ⊢; exact I.cl j hj hs⟩
    · by_cases e:j=i
      · subst e;rw [hdo] at hdj;rw [hdj,zJ6 v (by rw [I.tsize];exact hsz j d hil (by rw [hdo];exact hdj))]
        rw [←hvi,hvj]
      · rw [hnew j e] at hs;rw [zq v (fun e'=>B.dist j i d (by omega) hil e hdj (by rw [hdo];exact e'))]
        exact I.head j d vj hj hs hdj hvj
    · rw [hnew _ (by omega)] at hs
      rw [hnew _ (by omega),zq v (far j hj)]
      obtain ⟨g,h1,h2,h3⟩:=I.al j hj hs;exact ⟨g,h1,h2,h3.later hb⟩
    · rw [hnew _ (by omega)] at h1 h2
      rw [zq v (far j hj)] at h3;rw [zq v (far j' hj')];exact I.ne j j' g hj hj' hne h1 h2 h3
   unfold Oper.calmAt at hc;unfold Oper.wp;rw [hev];generalize (execOp (zKA ((((l.take n).map (·.dst)).zip hv).take i) a).eval o).run P (grow (redrawn W p.d) p.os)=r at hc;cases r with
   | ok nx w'' =>
     cases nx <;> simp only [Oper.calmUpon] at hc <;> simp only [Oper.upon]
     case value x =>
      obtain ⟨rfl,rfl⟩:=hc;exact post _ (Below.refl _ _)
     case skip =>
      obtain ⟨rfl,e⟩:=hc;rw [←e];exact post _ (Below.refl _ _)
     case enter f args =>
      obtain ⟨rfl,hc⟩:=hc;refine hc.mono fun e w3 ⟨he,hb⟩=>?_;subst he;exact post _ hb
   | halt x w''=>simp only [Oper.calmUpon] at hc
 · have sl_ne : ∀ j j',j<k→j'<k→j ≠ j'→sl j ≠ sl j':=fun j j' hj hj' hne e=>by
    obtain ⟨o1,b1,_,b2,_⟩:=D.al j hj;obtain ⟨o2,b3,_,b4,_⟩:=D.al j' hj';exact B.dist (n+j) (n+j') (sl j) (by omega) (by omega) (by omega) (by simp [zM,b1,b2]) (by simp [zM,b3,b4,e])
   have sl_lt : ∀ j,j<k→sl j<a.tmps.size:=fun j hj=>by
    obtain ⟨o1,b1,_,b2,_⟩:=D.al j hj;exact hsz (n+j) (sl j) (by omega) (by simp [zM,b1,b2])
   have sl_head : ∀ j h d,j<k→h<n→zM l h=some d→sl j ≠ d:=fun j h d hj hh hd e=>by
    obtain ⟨o1,b1,_,b2,_⟩:=D.al j hj;exact B.dist h (n+j) d (by omega) (by omega) (by omega) hd (by simp [zM,b1,b2,e])
   rcases Nat.lt_or_ge i (n+k) with hik | hik
   · -- a new variable
     obtain ⟨j,rfl⟩ : ∃ j,i=n+j:=⟨i - n,by omega⟩
     have hj:j<k:=by omega
     obtain ⟨o',h1,h2,h3,h4⟩:=D.al j hj;obtain rfl:o'=o:=Option.some.inj (h1.symm.trans hol);have hw:Region.wanted o' (yielded l.toArray a'.tmps)=true:=by simp [Region.wanted,h2]
     rw [if_pos hw];left;unfold Oper.wp;rw [h4];simp only [Oper.upon]
     have hst:s.getD (n+k+j) false=false:=by
      cases hx:s.getD (n+k+j) false with
      | false=>rfl
      | true=>exact absurd (I.cl j hj hx) (by rw [hnf];simp)
     refine ⟨by simp [I.size],by rw [zJ7,I.tsize],by rw [zJ1,I.defers],put_old _,fun j' d vj hj' hs hdj hvj=>?_,I.below.alloc I.below.size _,fun j' hj' hs=>?_,fun p q g hp hq hne e1 e2 e3=>?_,fun j' hj' hs=>?_⟩
     · rw [hnew _ (by omega)] at hs
       rw [h3,zq _ (fun e=>sl_head j j' d hj hj' hdj (Option.some.inj e))];exact I.head j' d vj hj' hs hdj hvj
     · rw [hnew (n+k+j') (by omega),h3]
       by_cases e:j'=j
       · subst e;rw [zJ6 _ (by rw [I.tsize];exact sl_lt j' hj'),hst]
         exact ⟨_,rfl,I.below.size,Bk.new _ _ _⟩
       · rw [hnew _ (by omega)] at hs
         rw [zq _ (fun e'=>sl_ne j j' hj hj' (Ne.symm e) (Option.some.inj e'))];obtain ⟨g,g1,g2,g3⟩:=I.al j' hj' hs;exact ⟨g,g1,g2,g3.alloc _⟩
     · rw [h3] at e3 ⊢
       have key : ∀ r g,r<k→r ≠ j→(s.setIfInBounds (n+j) true).getD (n+r) false=true→(a'.put (some (sl j)) (.pointer (some ⟨w'.heap.size,0,none⟩))).tmps[sl r]? = some (.pointer (some ⟨g,0,none⟩))→a'.tmps[sl r]? = some (.pointer (some ⟨g,0,none⟩))∧s.getD (n+r) false=true∧g<w'.heap.size:=by
        intro r g hr hrj hs hg;rw [hnew _ (by omega)] at hs
        rw [zq _ (fun e'=>sl_ne j r hj hr (Ne.symm hrj) (Option.some.inj e'))] at hg;obtain ⟨g',g1,g2,g3⟩:=I.al r hr hs;rw [g1] at hg;have:g'=g:=by simpa using hg
        subst this;exact ⟨g1,hs,g3.lt⟩
       by_cases ep:p=j
       · subst ep;rw [zJ6 _ (by rw [I.tsize];exact sl_lt p hp)] at e3
         have eg:=zJu e3;intro e4;have:=(key q g hq (Ne.symm hne) e2 e4).2.2;omega
       · obtain ⟨k1,k2,k3⟩:=key p g hp ep e1 e3;by_cases eq:q=j
         · subst eq;rw [zJ6 _ (by rw [I.tsize];exact sl_lt q hq)]
           intro e4;have eg:=zJu e4;omega
         · intro e4;obtain ⟨k4,k5,_⟩:=key q g hq eq e2 e4;exact I.ne p q g hp hq hne k2 k5 k1 k4
     · rw [hnew _ (by omega)] at hs
       have:=I.cl j' hj' hs;by_cases e:j'=j
       · subst e;exact hself
       · rw [hnew _ (by omega)];exact this
   · -- a variable's first store
     obtain ⟨j,rfl⟩ : ∃ j,i=n+k+j:=⟨i - (n+k),by omega⟩
     have hj:j<k:=by omega
     obtain ⟨o',h1,h2,h3,h4⟩:=D.st j hj;obtain rfl:o'=o:=Option.some.inj (h1.symm.trans hol);have hw:Region.wanted o' (yielded l.toArray a'.tmps)=true:=by simp [Region.wanted,h2]
     rw [if_pos hw];left;have hal:=zN2 (B.sta j hj) hr;obtain ⟨h,hh,hdh,hwh⟩:=B.sth j hj;have hlh:=zN2 hwh hr;have hvh:=hu j hj h hh hdh;have hsu:=I.head h (u j) _ hh hlh hdh hvh;obtain ⟨g,g1,g2,g3⟩:=I.al j hj hal;rw [hnf] at g3;obtain ⟨w'',r1,r2,r3,r4⟩:=h4 a'.eval w' g (by simp [Act.eval,Array.getD_eq_getD_getElem?,g1]) (by simp [Act.eval,Array.getD_eq_getD_getElem?,hsu]) (by simpa using g3)
     unfold Oper.wp;rw [r1];simp only [Oper.upon];have hput:a'.put o'.dst undef=a':=by rw [h3];rfl
     rw [hput];have hput':a'.put o'.dst undef=a':=hput;refine ⟨by simp [I.size],I.tsize,I.defers,fun x hx=>by have:=put_old undef x hx;rwa [hput'] at this,fun j' d vj hj' hs hdj hvj=>?_,zBY I.below r3 g2,fun j' hj' hs=>?_,fun p q g' hp hq hne e1 e2 e3=>?_,fun j' hj' hs=>?_⟩
     · rw [hnew _ (by omega)] at hs
       exact I.head j' d vj hj' hs hdj hvj
     · rw [hnew _ (by omega)] at hs
       obtain ⟨g',k1,k2,k3⟩:=I.al j' hj' hs;refine ⟨g',k1,k2,?_⟩;by_cases e:j'=j
       · subst e;rw [g1] at k1;have:g=g':=by simpa using k1
         subst this;rw [hself];exact r2
       · rw [hnew _ (by omega)]
         have hgg:g' ≠ g:=by
          rintro rfl;exact I.ne j' j g' hj' hj e hs hal k1 g1
         unfold Bk;rw [r3.block g' k3.lt (by simpa using hgg)]
         exact k3
     · rw [hnew _ (by omega)] at e1 e2
       exact I.ne p q g' hp hq hne e1 e2 e3
     · rw [hnew _ (by omega)]
       by_cases e:j'=j
       · subst e;exact hal
       · rw [hnew _ (by omega)] at hs
         exact I.cl j' hj' hs
theorem zDT (B:DeclB l n k u) (D:DeclOps P l n k sl u T z vs) (hlen:hv.length=n)
 (hcalm : ∀ i o v,i<n→l[i]? = some o→hv[i]? = some v → ∀ p:Regrown,Oper.calmAt P o (zKA ((((l.take n).map (·.dst)).zip hv).take i) a) (grow (redrawn W p.d) p.os) v)
 (hsz : ∀ i d,i<n+k+k→zM l i=some d→d<a.tmps.size)
 (hu : ∀ j,j<k → ∀ h,h<n→zM l h=some (u j)→hv[h]? = some (.agg (vs j)))
 {Q:Exit→Act→World→Prop} (hQ : ∀ s a' w',DI l n k sl T z vs W a hv s a' w'→unl s=0→Q .normal a' w') :
 ∀ (f:Nat) (s:Array Bool) (a':Act) (w':World),unl s=f→DI l n k sl T z vs W a hv s a' w'→wpAny P .any l.toArray Q f s a' w'
 | 0, s, a', w', hu0, I => by
   refine ⟨?_,hQ s a' w' I hu0⟩;cases hr:Region.ready .any l.toArray s with
   | nil=>rfl
   | cons i r =>
     have hi:i∈Region.ready .any l.toArray s:=by rw [hr];simp
     have hun:=(mem_ready.1 hi).1;rw [zNp hu0] at hun
     have hil:i<s.size:=by
      have:=(mem_ready.1 hi).2;obtain ⟨o,ho,_⟩:=this;have:=(Array.getElem?_eq_some_iff.1 ho).1;simp [B.len] at this;rw [I.size];exact this
     simp [hil] at hun
 | f + 1, s, a', w', huf, I => by
   refine ⟨fun h0=>?_,fun i hi=>?_⟩
   · obtain ⟨q,hq,hqn⟩:=zNn (s:=s) (by omega)
     obtain ⟨i,hi⟩:=zKN (l:=l) (n:=n+k+k) (g:=0) I.size (by rw [B.len];omega) B.back (q+1) q (by omega) (by rw [←I.size];exact hq) hqn
     simp at hi;rw [h0] at hi;simp at hi
   · refine wpOp_mono (fun a'' w'' I'=>?_) (zDU B D hlen hcalm hsz hu I hi);refine zDT B D hlen hcalm hsz hu hQ f _ a'' w'' ?_ I';have hun:=(mem_ready.1 hi).1
     have hil:i<s.size:=by
      obtain ⟨_,o,ho,_⟩:=mem_ready.1 hi;have:=(Array.getElem?_eq_some_iff.1 ho).1;simp [B.len] at this;rw [I.size];exact this
     have:=zNo hil hun;omega
def zDk (l:List Oper) (m:Nat):Bool:=l.all fun o=>match o.dst with | some d=>decide (d<m) | none=>true
theorem zDl {m:Nat} (h:zDk l m=true) {i d:Nat} (hd:zM l i=some d):d<m:=by
 unfold zM at hd;cases ho:l[i]? with
 | none=>simp [ho] at hd
 | some o =>
   simp only [ho,Option.bind_some] at hd;have:=List.all_eq_true.1 h o (List.mem_of_getElem? ho);simpa [hd] using this
theorem zAK {id:Nat} {Q:Exit→Act→World→Prop} (n k:Nat) (sl u:Nat→Tmp) (T:Nat→TypeId) (z vs:Nat→Array Value) (hm:P.follows .mixedOrders=true) (hB:zDJ l n k u=true)
 (D:DeclOps P l n k sl u T z vs) (m:Nat) (hdm:zDk l m=true) (ham:a.tmps.size=m)
 (h:zOI P W (fun aH=>(∀ j,j<k→aH.tmps[u j]? = some (.agg (vs j))) ∧
  ∀ (g : Nat → Nat) w', Below W.heap.size W w' → (∀ j, j < k → W.heap.size ≤ g j ∧ Bk w' (g j) (vs j) (T j)) → (∀ i j, i < k → j < k → i ≠ j → g i ≠ g j) →
    wpList P l.toArray Q [] (zKA ((List.range k).map fun j=>(some (sl j),Value.pointer (some ⟨g j,0,none⟩))) aH) w') (l.take n) a):(Code.region id l.toArray true).wp P Q a W:=by
 have hsz : ∀ i d,i<n+k+k→zM l i=some d→d<a.tmps.size:=fun i d _ hd=>by rw [ham];exact zDl hdm hd
 have B:=zDK hB;have hlenl:=B.len;obtain ⟨hv,h1,⟨h2,h3⟩,h4⟩:=zB5 _ _ h;have hn:(l.take n).length=n:=by simp;omega
 rw [hn] at h1
 have hnorm : ∀ i,i<n→(((l.take n).map (·.dst)).zip hv)[i]? = (hv[i]?).map fun v=>(zM l i,v):=by
  intro i hi;obtain ⟨v,hvi⟩ : ∃ v,hv[i]? = some v:=⟨_,List.getElem?_eq_getElem (by omega)⟩
  rw [hvi,(List.getElem?_zip_eq_some (z:=(zM l i,v))).2 (show ((l.take n).map (·.dst))[i]? = some (zM l i)∧hv[i]? = some v from ⟨by
   rw [List.getElem?_map,List.getElem?_take,if_pos hi];unfold zM;rw [List.getElem?_eq_getElem (show i<l.length by omega)];rfl,hvi⟩)]
  rfl
 have hpw:(((l.take n).map (·.dst)).zip hv).Pairwise (fun p q => ∀ d,p.1=some d→q.1 ≠ some d):=by
  rw [List.pairwise_iff_getElem];intro p q hp hq hpq d' e1 e2;have hp':p<n:=by simp at hp;omega
  have hq':q<n:=by simp at hq;omega
  have n1:=hnorm p hp';have n2:=hnorm q hq';rw [List.getElem?_eq_getElem hp,List.getElem?_eq_getElem (show p<hv.length by omega)] at n1
  rw [List.getElem?_eq_getElem hq,List.getElem?_eq_getElem (show q<hv.length by omega)] at n2
  have n1':=Option.some.inj n1;have n2':=Option.some.inj n2;rw [n1'] at e1;rw [n2'] at e2;exact B.dist p q d' (by omega) (by omega) (by omega) e1 e2
 have hslot : ∀ i d v,i<n→zM l i=some d→hv[i]? = some v→(zKA (((l.take n).map (·.dst)).zip hv) a).tmps[d]? = some v:=by
  intro i d v hi hd hvi;refine zKB _ a d v (hsz i d (by omega) hd) hpw (List.mem_iff_getElem?.2 ⟨i,?_⟩)
  rw [hnorm i hi,hvi,←hd];rfl
 refine wp_region_any hm ?_
 have hu : ∀ j,j<k → ∀ h,h<n→zM l h=some (u j)→hv[h]? = some (.agg (vs j)):=by
  intro j hj h hh hd;obtain ⟨v,hvi⟩ : ∃ v,hv[h]? = some v:=⟨_,List.getElem?_eq_getElem (by omega)⟩
  have e1:=hslot h (u j) v hh hd hvi;have e2:=h2 j hj;rw [e1] at e2;rw [hvi,e2]
 have hsize:l.toArray.size=unl (Array.replicate (n+k+k) false):=by simp [unl,hlenl]
 have hrep : ∀ i,(Array.replicate (n+k+k) false).getD i false=false:=fun i=>getD_replicate_false _ _;rw [show l.toArray.size=n+k+k by simp [hlenl]] at hsize ⊢
 refine zDT B D h1 (fun i o v hi ho hvi p=>h4 i o v (by rw [List.getElem?_take,if_pos hi];exact ho) hvi p) hsz hu (W:=W) (sl:=sl) (T:=T) (z:=z) (vs:=vs) (hv:=hv) (a:=a) (fun s a' w' I h0=>?_) _ _ a _ hsize.symm
  ⟨by simp,rfl,rfl,fun x _=>rfl,fun i d v _ hs=>(by rw [hrep] at hs;cases hs),⟨rfl,rfl,rfl,Nat.le_refl _,fun _ _=>rfl⟩,fun j _ hs=>(by rw [hrep] at hs;cases hs),fun i j g _ _ _ hs=>(by rw [hrep] at hs;cases hs),fun j _ hs=>(by rw [hrep] at hs;cases hs)⟩
 have hall : ∀ i,i<n+k+k→s.getD i false=true:=by
  intro i hi;rw [zNp h0,I.size];simp [hi]
 have hg : ∀ j,∃ g,j<k→a'.tmps[sl j]? = some (.pointer (some ⟨g,0,none⟩))∧W.heap.size≤g∧Bk w' g (vs j) (T j):=by
  intro j;by_cases hj:j<k
  · obtain ⟨g,k1,k2,k3⟩:=I.al j hj (hall _ (by omega))
    rw [if_pos (hall _ (by omega))] at k3
    exact ⟨g,fun _=>⟨k1,k2,k3⟩⟩
  · exact ⟨0,fun h=>absurd h hj⟩
 have hgc:=Classical.axiomOfChoice hg;obtain ⟨g,hg⟩:=hgc
 have hne : ∀ i j,i<k→j<k→i ≠ j→g i ≠ g j:=by
  intro i j hi hj hij e;have e1:=(hg i hi).1;have e2:=(hg j hj).1;rw [←e] at e2;exact I.ne i j (g i) hi hj hij (hall _ (by omega)) (hall _ (by omega)) e1 e2
 have hfin:=h3 g w' I.below (fun j hj=>(hg j hj).2) hne
 have hslpw:((List.range k).map fun j=>(some (sl j),Value.pointer (some (⟨g j,0,none⟩:Addr)))).Pairwise (fun p q => ∀ d,p.1=some d→q.1 ≠ some d):=by
  rw [List.pairwise_iff_getElem];intro p q hp hq hpq d' e1 e2;simp only [List.length_map,List.length_range] at hp hq;simp only [List.getElem_map,List.getElem_range] at e1 e2;obtain ⟨o1,b1,_,b2,_⟩:=D.al p hp;obtain ⟨o2,b3,_,b4,_⟩:=D.al q hq;exact B.dist (n+p) (n+q) d' (by omega) (by omega) (by omega) (by simp [zM,b1,b2];exact Option.some.inj e1) (by simp [zM,b3,b4];exact Option.some.inj e2)
 have heq:a'=zKA ((List.range k).map fun j=>(some (sl j),Value.pointer (some ⟨g j,0,none⟩))) (zKA (((l.take n).map (·.dst)).zip hv) a):=by
  refine zAi ?_ fun x=>?_
  · rw [(zKD _ _).2,(zKD _ _).2];exact I.defers
  · by_cases hx : ∃ j,j<k∧sl j=x
    · obtain ⟨j,hj,rfl⟩:=hx;rw [(hg j hj).1];symm;refine zKB _ _ _ _ ?_ hslpw (List.mem_map.2 ⟨j,List.mem_range.2 hj,rfl⟩);obtain ⟨o1,b1,_,b2,_⟩:=D.al j hj;rw [(zKD _ _).1];exact hsz (n+j) (sl j) (by omega) (by simp [zM,b1,b2])
    · rw [zKC _ _ x (fun p hp e=>by
       obtain ⟨j,hj,rfl⟩:=List.mem_map.1 hp;exact hx ⟨j,List.mem_range.1 hj,Option.some.inj e⟩)]
      by_cases hd : ∃ i,i<n∧zM l i=some x
      · obtain ⟨i,hi,hd⟩:=hd;obtain ⟨v,hvi⟩ : ∃ v,hv[i]? = some v:=⟨_,List.getElem?_eq_getElem (by omega)⟩
        rw [hslot i x v hi hd hvi];exact I.head i x v hi (hall _ (by omega)) hd hvi
      · rw [zKC _ _ x (fun p hp e=>by
         obtain ⟨i,hi⟩:=List.mem_iff_getElem?.1 hp
         have hin:i<n:=by
          have:=(List.getElem?_eq_some_iff.1 hi).1;simp at this;omega
         rw [hnorm i hin] at hi;obtain ⟨v,_,hv'⟩:=Option.map_eq_some_iff.1 hi;subst hv';exact hd ⟨i,hin,e⟩)]
        refine I.old x fun i hs e=>?_
        have hil:i<n+k+k:=by
         rw [←I.size];rcases Nat.lt_or_ge i s.size with h | h
         · exact h
         · simp [Array.getD_eq_getD_getElem?,Array.getElem?_eq_none h] at hs
        rcases Nat.lt_or_ge i n with hin | hin
        · exact hd ⟨i,hin,e⟩
        · rcases Nat.lt_or_ge i (n+k) with hik | hik
          · obtain ⟨j,rfl⟩ : ∃ j,i=n+j:=⟨i - n,by omega⟩
            obtain ⟨o1,b1,_,b2,_⟩:=D.al j (by omega)
            exact hx ⟨j,by omega,by simpa [zM,b1,b2] using e⟩
          · obtain ⟨j,rfl⟩ : ∃ j,i=n+k+j:=⟨i - (n+k),by omega⟩
            obtain ⟨o1,b1,_,b2,_⟩:=D.st j (by omega)
            simp [zM,b1,b2] at e
 rw [heq];exact hfin
end
end Go.Proofs.YtgnfgblkpnfcnaaGreatDoor
end
