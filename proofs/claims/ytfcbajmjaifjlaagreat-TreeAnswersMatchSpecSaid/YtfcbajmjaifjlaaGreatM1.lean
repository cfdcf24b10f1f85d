/- M1: joined by program. -/
import Derived.Test.YtfcbajmjaifjlaaGreatProg
import Derived.WalkKit
import Derived.WalkSpells
import Derived.WalkLawsBesides
import Derived.Lib.Hide
import Derived.Maps.AppendAt
import Derived.Deep.OwnRows
import Derived.Laws.BytesArg
import Derived.Laws.Rows
import Derived.Laws.IdiomStrings
import Derived.Maps.OwnSet
import Derived.Maps.Views
import Derived.DeepKeys4
set_option maxRecDepth 100000
set_option linter.all false
namespace Go.Proofs.YtfcbajmjaifjlaaGreat
section
open Go.RowKit
structure Bx (p:Prop):Prop where
 o : p
theorem zLa {a b:Int} (h:a=b):Ending.returned (.int .i64 a)=Ending.returned (.int .i64 b):=by rw [h]
theorem zx {a b:Bool} (h:a=b):Ending.returned (.bool a)=Ending.returned (.bool b):=by rw [h]
theorem zBY {xs:List Int} {k n:Nat} (hn:Bx (xs.length=n)) (h:k<n) : ∃ x,xs[k]? = some x :=
 ⟨_,List.getElem?_eq_getElem (by rw [hn.o];exact h)⟩
theorem zF (w:World) (v:Value) (t:TypeId):(w.alloc (.cells #[v] t)).cell? ⟨w.heap.size,0,none⟩=some v:=by
 simp
theorem zMM (w:World) (a:Addr) (u:Value):(w.setCell a u).heap.size=w.heap.size:=by simp [World.setCell]
theorem zk {B:Nat} {w:World} (h:B≤w.heap.size) (o:Obj):B≤(w.alloc o).heap.size:=by
 simp;omega
def Sl (w:World) (k:IntKind) (a:Option Addr) (xs:List Int):Prop :=
 ∀ i x,xs[i]? = some x → ∃ b off,a=some ⟨b,off,none⟩∧w.cell? ⟨b,off+i,none⟩=some (.int k x)
theorem Sl.nil (w:World) (k:IntKind) (a:Option Addr):Sl w k a []:=fun i x h=>by simp at h
theorem Sl.below {w w':World} {k:IntKind} {a:Option Addr} {xs:List Int} (h:Sl w k a xs) (hb:Below w.heap.size w w'):Sl w' k a xs:=by
 intro i x hx;obtain ⟨b,off,rfl,hc⟩:=h i x hx;exact ⟨b,off,rfl,cell_later hb hc⟩
theorem Sl.drewN {w:World} {k:IntKind} {a:Option Addr} {xs:List Int} (h:Sl w k a xs) (n:Nat):Sl (w.drewN n) k a xs:=h
theorem Sl.drew {w:World} {k:IntKind} {a:Option Addr} {xs:List Int} (h:Sl w k a xs):Sl w.drew k a xs:=h
@[simp,go_sem] theorem Sl.drewN_iff {w:World} {k:IntKind} {a:Option Addr} {xs:List Int} (n:Nat):Sl (w.drewN n) k a xs ↔ Sl w k a xs:=Iff.rfl
@[simp,go_sem] theorem Sl.drew_iff {w:World} {k:IntKind} {a:Option Addr} {xs:List Int}:Sl w.drew k a xs ↔ Sl w k a xs:=Iff.rfl
def Own (w:World) (B:Nat) (e:TypeId) (k:IntKind) (v:Value) (xs:List Int):Prop:=w.ownsRow B e 1 v xs.length (xs.map (Value.int k))
theorem Own.nil (w:World) (B:Nat) (e:TypeId) (k:IntKind):Own w B e k (.slice none 0 0) []:=World.ownsRow_nil w B e 1
theorem Own.form {w:World} {B:Nat} {e:TypeId} {k:IntKind} {v:Value} {xs:List Int} (h:Own w B e k v xs) :
 ∃ a cap,v = .slice a xs.length cap∧Sl w k a xs:=by
 rcases h.2 with ⟨rfl,hn⟩ | ⟨g,cap,cur,rfl,hb,hg,hnc,Ld,Lr,ht⟩
 · have hx:xs=[]:=List.eq_nil_of_length_eq_zero hn;subst hx;exact ⟨none,0,rfl,Sl.nil _ _ _⟩
 · refine ⟨_,cap,rfl,fun i x hx=>⟨g,0,rfl,?_⟩⟩;have hi:i<xs.length:=(List.getElem?_eq_some_iff.1 hx).1;have LO:w.cell? ⟨g,i,none⟩=cur[i]? := by simp [World.cell?,hg]
   rw [Nat.zero_add,LO];have h1:(xs.map (Value.int k))[i]? = some (.int k x):=by rw [List.getElem?_map,hx];rfl
   rw [←ht,List.getElem?_take,if_pos (by omega)] at h1
   simpa using h1
theorem Own.sl {w:World} {B:Nat} {e:TypeId} {k:IntKind} {a:Option Addr} {n c:Nat} {xs:List Int} (h:Own w B e k (.slice a n c) xs):Sl w k a xs:=by
 obtain ⟨a',c',he,hs⟩:=h.form;injection he with h1 h2 h3;subst h1;exact hs
theorem Own.setBelow {w:World} {B:Nat} {e:TypeId} {k:IntKind} {v:Value} {xs:List Int} (h:Own w B e k v xs) {a:Addr} (ha:a.block<B) (u:Value):Own (w.setCell a u) B e k v xs:=ownsRow_setCell_below h ha u
theorem Own.lt {w:World} {B:Nat} {e:TypeId} {k:IntKind} {v:Value} {xs:List Int} (h:Own w B e k v xs) : ∀ g,v.ownBlock=some g→B≤g∧g<w.heap.size:=World.ownsRow.lt h
theorem Own.below {w w':World} {B:Nat} {e:TypeId} {k:IntKind} {v:Value} {xs:List Int} (h:Own w B e k v xs) (hb:Below w.heap.size w w'):Own w' B e k v xs :=
 World.ownsRow.kept (row:=none) h ⟨hb.os,hb.tape,hb.output,hb.size,fun i hi _=>hb.block i hi⟩ (by cases v.ownBlock <;> simp)
theorem Own.alloc {w:World} {B:Nat} {e:TypeId} {k:IntKind} {v:Value} {xs:List Int} (h:Own w B e k v xs) (o:Obj):Own (w.alloc o) B e k v xs:=World.ownsRow.alloc h o
theorem Own.base {w:World} {B B':Nat} {e:TypeId} {k:IntKind} {v:Value} {xs:List Int} (h:Own w B e k v xs) (hB:B'≤B):Own w B' e k v xs:=by
 refine ⟨h.1,h.2.imp id ?_⟩;rintro ⟨g,cap,cur,h1,h2,h3⟩;exact ⟨g,cap,cur,h1,Nat.le_trans hB h2,h3⟩
theorem Own.drew {w:World} {B:Nat} {e:TypeId} {k:IntKind} {v:Value} {xs:List Int} (h:Own w B e k v xs):Own w.drew B e k v xs:=h
theorem Own.drewN {w:World} {B:Nat} {e:TypeId} {k:IntKind} {v:Value} {xs:List Int} (h:Own w B e k v xs) (n:Nat):Own (w.drewN n) B e k v xs:=h
theorem Own.grown {w w':World} {B:Nat} {e:TypeId} {k:IntKind} {v:Value} {xs:List Int} (h:Own w B e k v xs) {row:Option Nat} (hg:w.grownBy w' row) (Ph:v.ownBlock=none∨v.ownBlock ≠ row):Own w' B e k v xs :=
 World.ownsRow.kept h hg Ph
theorem zAG {P:Program} {w:World} {ops:Array Oper} {rest:List Oper} {o:Oper} {a:Act} {Q:Exit→Act→World→Prop} (NF:o.guard=none) (s x:Operand) (t:TypeId)
 (ho:o.op = .call { callee:=.builtin .append,args:=#[s,x],argTypes:=#[t,t] })
 (e:TypeId) (k:IntKind) (z:Value) (bytes:Nat) (L1:bytes≤8) (ht:P.underlying t=some (.slice e))
 (hi:(P.info? e).map (fun i=>(i.zero,i.size,i.bytes))=some (some z,1,bytes)) (TZ:z.cells.size=1)
 (B:Nat) (v:Value) (xs:List Int) (hs:a.eval s=v) (QQ:Own w B e k v xs) (n:Int)
 (ad:Addr) (c:Nat) (hx:a.eval x = .slice (some ad) 1 c) (LO:w.cell? ad=some (.int k n)) (Od:xs.length≤1000000000) (KH:B≤w.heap.size)
 (h : ∀ v' w',Own w' B e k v' (xs++[n])→w.grownBy w' v.ownBlock→(v'.ownBlock=v.ownBlock∨v'.ownBlock=some w.heap.size)→wpList P ops Q rest (a.put o.dst v') w') :
 wpList P ops Q (o::rest) a w:=by
 obtain ⟨i0,Na,TQ,TR,TS⟩:=info_parts hi;refine wpList_plain NF fun K hK=>?_
 have Pn : ∀ j u,[Value.int k n][j]? = some u→w.cell? (ad.add j)=some u:=by
  intro j u hu
  match j with
  | 0=>simp at hu;subst hu;simpa [Addr.add] using LO
  | j+1=>simp at hu
 obtain ⟨v',w',hr,h2,h3,_,h4⟩:=run_append_own_at (P:=P) w B t o.type e i0 z 1 bytes ht Na TQ TR TS TZ (by omega) v xs.length _ QQ ad 1 c [Value.int k n] rfl Pn (by simp [Value.oneCell'])
  (by simp only [maxLen];omega) (by have:(xs.length+1) * bytes≤(xs.length+1) * 8:=Nat.mul_le_mul_left _ L1;omega) KH
 unfold Oper.wp execOp;simp only [ho,resolve,invoke,builtin,Sem.run_bind,Sem.run_pure,Result.andThen_ok,List.map_toArray,List.map_cons,List.map_nil,hs,hx,hr];exact hK _ _ (h v' w' (by unfold Own;simpa using h2) h3 h4)
theorem Own.at {w:World} {B:Nat} {e:TypeId} {k:IntKind} {v:Value} {xs:List Int} (h:Own w B e k v xs) (Ph:0<xs.length) :
 ∃ g cap, v = .slice (some ⟨g, 0, none⟩) xs.length cap ∧ B ≤ g ∧ g < w.heap.size ∧ (∀ i x, xs[i]? = some x → w.cell? ⟨g, i, none⟩ = some (.int k x)) ∧ (∀ i, w.frozen? ⟨g, i, none⟩ = false) ∧
   ∀ i x,Own (w.setCell ⟨g,i,none⟩ (.int k x)) B e k (.slice (some ⟨g,0,none⟩) xs.length cap) (xs.set i x):=by
 obtain ⟨a,cap,rfl,Rn⟩:=h.form;rcases h.2 with ⟨hv,hn⟩ | ⟨g,Et,cur,hv,hb,hg,hrest⟩
 · omega
 · injection hv with h1 h2 h3;subst h1 h3;refine ⟨g,cap,rfl,hb,(Array.getElem?_eq_some_iff.1 hg).1,fun i x hx=>?_,fun i=>World.ownsRow.frozenAt h i,fun i x=>?_⟩
   · obtain ⟨b,off,Ka,hc⟩:=Rn i x hx;simp only [Option.some.injEq,Addr.mk.injEq] at Ka;obtain ⟨rfl,rfl,_⟩:=Ka;simpa using hc
   · have:=World.ownsRow.stored h i (.int k x);unfold Own;rw [List.length_set,List.map_set];exact this.1
theorem Own.lit (w:World) (B:Nat) (e:TypeId) (k:IntKind) (cs:Array Value) (xs:List Int) (n:Nat) (hb:B≤w.heap.size) (hn:n≤maxLen) (hx:xs.length=n) (h:cs=(xs.map (Value.int k)).toArray) :
 Own (w.alloc (.cells cs e)) B e k (.slice (some ⟨w.heap.size,0,none⟩) n n) xs:=by
 subst h hx;have:=World.ownsRow_lit (e:=e) (size:=1) w (xs.map (Value.int k)).toArray xs.length hb hn (by simp)
 simpa [Own] using this
theorem zOW {P:Program} {w:World} {ops:Array Oper} {rest:List Oper} {o:Oper} {a:Act} {Q:Exit→Act→World→Prop} (NF:o.guard=none) (s x:Operand) (t:TypeId)
 (ho:o.op = .call { callee:=.builtin .append,args:=#[s,x],argTypes:=#[t,t] })
 (e:TypeId) (k:IntKind) (z:Value) (bytes:Nat) (L1:bytes≤8) (ht:P.underlying t=some (.slice e))
 (hi:(P.info? e).map (fun i=>(i.zero,i.size,i.bytes))=some (some z,1,bytes)) (TZ:z.cells.size=1)
 (B:Nat) (v:Value) (xs:List Int) (hs:a.eval s=v) (QQ:Own w B e k v xs) (ys:List Int)
 (A:Option Addr) (m c:Nat) (hx:a.eval x = .slice A m c) (hm:m=ys.length) (TP:Sl w k A ys) (Od:xs.length+ys.length≤1000000000) (KH:B≤w.heap.size)
 (h : ∀ v' w',Own w' B e k v' (xs++ys)→w.grownBy w' v.ownBlock→(v'.ownBlock=v.ownBlock∨v'.ownBlock=some w.heap.size)→wpList P ops Q rest (a.put o.dst v') w') :
 wpList P ops Q (o::rest) a w:=by
 subst hm;obtain ⟨i0,Na,TQ,TR,TS⟩:=info_parts hi;refine wpList_plain NF fun K hK=>?_
 have key : ∃ v' w',(Builtin.append_ #[t,t] o.type #[v,.slice A ys.length c]).run P w = .ok v' w'∧Own w' B e k v' (xs++ys)∧w.grownBy w' v.ownBlock∧(v'.ownBlock=v.ownBlock∨v'.ownBlock=some w.heap.size):=by
  cases A with
  | none =>
    have Pr:ys=[]:=by
     cases ys with
     | nil=>rfl
     | cons y l=>obtain ⟨b,off,h0,_⟩:=TP 0 y rfl;cases h0
    subst Pr;refine ⟨v,w,?_,by simpa using QQ,World.grownBy.refl w _,.inl rfl⟩
    rcases QQ.2 with ⟨rfl,hn⟩ | ⟨g,cap,cur,rfl,_,_,hnc,_⟩
    · simp [Builtin.append_,run_underlying ht,sizeOf,typeInfo,Na,Builtin.lenOf,Builtin.firstCells]
    · simp [Builtin.append_,run_underlying ht,sizeOf,typeInfo,Na,Builtin.lenOf,Builtin.firstCells,hnc,storeCells]
  | some ad =>
    have Pn : ∀ j u,(ys.map (Value.int k))[j]? = some u→w.cell? (ad.add j)=some u:=by
     intro j u hu;rw [List.getElem?_map] at hu;cases hy:ys[j]? with
     | none=>rw [hy] at hu;cases hu
     | some y =>
       rw [hy] at hu;obtain ⟨b,off,h0,hc⟩:=TP j y hy;injection h0 with h0;subst h0;injection hu with hu;subst hu;have:(⟨b,off,none⟩:Addr).add j=⟨b,off+j,none⟩:=by unfold Addr.add;split <;> simp_all
       rw [this];exact hc
    obtain ⟨v',w',hr,h2,h3,_,h4⟩:=run_append_own_at (P:=P) w B t o.type e i0 z 1 bytes ht Na TQ TR TS TZ (by omega) v xs.length _ QQ ad ys.length c (ys.map (Value.int k)) (by simp) Pn (ints_oneCell k ys)
     (by simp only [maxLen];omega) (by have:(xs.length+ys.length) * bytes≤(xs.length+ys.length) * 8:=Nat.mul_le_mul_left _ L1;omega) KH
    exact ⟨v',w',hr,by unfold Own;simpa using h2,h3,h4⟩
 obtain ⟨v',w',hr,h2,h3,h4⟩:=key;unfold Oper.wp execOp;simp only [ho,resolve,invoke,builtin,Sem.run_bind,Sem.run_pure,Result.andThen_ok,List.map_toArray,List.map_cons,List.map_nil,hs,hx,hr];exact hK _ _ (h v' w' h2 h3 h4)
theorem zDM {P:Program} {w:World} (src e dst:TypeId) (hs:P.underlying src=some (.slice e)) (he:P.underlying e=some (.int .u8)) (hd:P.underlying dst=some .string) {a:Option Addr} {xs:List Int} (h:Sl w .u8 a xs) (n cap:Nat) (hn:n=xs.length) :
 (convert src dst (.slice a n cap)).run P w = .ok (.string (strOfNums xs)) w:=by
 subst hn;cases xs with
 | nil =>
   cases a with
   | none=>exact run_convert_bytes_nil w src e hs he _ _ dst hd
   | some a =>
     have:=run_convert_bytes_string (P:=P) w src dst e (some a) 0 cap hs he hd;simp only [List.length_nil];rw [this,run_bytesToString w a 0 cap [] (by simp [loadCells,loadCellsFrom])]
     rfl
 | cons x l =>
   obtain ⟨b,off,rfl,h0⟩:=h 0 x rfl;refine run_convert_bytes_arg w src e hs he b off _ cap (x::l) rfl (fun i hi=>?_) dst hd;obtain ⟨b',off',e',hc⟩:=h i _ (List.getElem?_eq_getElem hi);simp only [Option.some.injEq,Addr.mk.injEq] at e';obtain ⟨rfl,rfl,_⟩:=e';rw [hc];simp [List.getD,List.getElem?_eq_getElem hi]
def Bk (w:World) (g:Nat) (cs:Array Value) (t:TypeId):Prop:=w.heap[g]? = some (.cells cs t (0,0))
theorem zC (w:World) (o:Obj) (n:Nat) (h:n=w.heap.size):(w.alloc o).heap[n]? = some o:=by subst h;exact heap_alloc_new w o
theorem zD {w:World} {o x:Obj} {n:Nat} (h:w.heap[n]? = some x):(w.alloc o).heap[n]? = some x:=by
 rw [Below.heap_alloc w o n (Array.getElem?_eq_some_iff.1 h).1];exact h
theorem Bk.lt {w:World} {g:Nat} {cs:Array Value} {t:TypeId} (h:Bk w g cs t):g<w.heap.size:=(Array.getElem?_eq_some_iff.1 h).1
theorem Bk.cell {w:World} {g:Nat} {cs:Array Value} {t:TypeId} (h:Bk w g cs t) (j:Nat) {v:Value} (hv:cs[j]? = some v):w.cell? ⟨g,j,none⟩=some v:=by
 rw [cell_of_row w g j cs t (0,0) h];exact hv
theorem Bk.frozen {w:World} {g:Nat} {cs:Array Value} {t:TypeId} (h:Bk w g cs t) (j:Nat):w.frozen? ⟨g,j,none⟩=false:=frozen_of_row w g j cs t h
theorem Bk.la {w w':World} {g:Nat} {cs:Array Value} {t:TypeId} (h:Bk w g cs t) (hb:Below w.heap.size w w'):Bk w' g cs t:=by
 unfold Bk;rw [hb.block g h.lt];exact h
theorem Bk.new (w:World) (cs:Array Value) (t:TypeId):Bk (w.alloc (.cells cs t)) w.heap.size cs t:=heap_alloc_new w _
theorem Bk.alloc {w:World} {g:Nat} {cs:Array Value} {t:TypeId} (h:Bk w g cs t) (o:Obj):Bk (w.alloc o) g cs t:=zD h
theorem Bk.drew {w:World} {g:Nat} {cs:Array Value} {t:TypeId} (h:Bk w g cs t):Bk w.drew g cs t:=h
theorem Bk.set {w:World} {g:Nat} {cs:Array Value} {t:TypeId} (h:Bk w g cs t) (j:Nat) (v:Value):Bk (w.setCell ⟨g,j,none⟩ v) g (cs.setIfInBounds j v) t:=heap_setCell_same w g j cs t v h
theorem Bk.other {w:World} {g:Nat} {cs:Array Value} {t:TypeId} (h:Bk w g cs t) (a:Addr) (v:Value) (Ph:g ≠ a.block):Bk (w.setCell a v) g cs t:=by
 unfold Bk;rw [heap_setCell_other w a g v Ph];exact h
theorem Bk.put3 {w:World} {g:Nat} {x y z:Value} {t:TypeId} (h:Bk w g #[x,y,z] t) (a b c:Value):Bk (((w.setCell ⟨g,0,none⟩ a).setCell ⟨g,1,none⟩ b).setCell ⟨g,2,none⟩ c) g #[a,b,c] t:=by
 simpa using ((h.set 0 a).set 1 b).set 2 c
theorem Bk.put6 {w:World} {g:Nat} {x0 x1 x2 x3 x4 x5:Value} {t:TypeId} (h:Bk w g #[x0,x1,x2,x3,x4,x5] t) (a b c d e f:Value) :
 Bk ((((((w.setCell ⟨g,0,none⟩ a).setCell ⟨g,1,none⟩ b).setCell ⟨g,2,none⟩ c).setCell ⟨g,3,none⟩ d).setCell ⟨g,4,none⟩ e).setCell ⟨g,5,none⟩ f) g #[a,b,c,d,e,f] t:=by
 simpa using (((((h.set 0 a).set 1 b).set 2 c).set 3 d).set 4 e).set 5 f
theorem Bk.put7 {w:World} {g:Nat} {x0 x1 x2 x3 x4 x5 x6:Value} {t:TypeId} (h:Bk w g #[x0,x1,x2,x3,x4,x5,x6] t) (a b c d e f i:Value) :
 Bk (((((((w.setCell ⟨g,0,none⟩ a).setCell ⟨g,1,none⟩ b).setCell ⟨g,2,none⟩ c).setCell ⟨g,3,none⟩ d).setCell ⟨g,4,none⟩ e).setCell ⟨g,5,none⟩ f).setCell ⟨g,6,none⟩ i) g #[a,b,c,d,e,f,i] t:=by
 simpa using ((((((h.set 0 a).set 1 b).set 2 c).set 3 d).set 4 e).set 5 f).set 6 i
theorem zBk {B:Nat} {a w:World} (h:Below B a w) {g:Nat} (hg:B≤g) (x y z:Value):Below B a (((w.setCell ⟨g,0,none⟩ x).setCell ⟨g,1,none⟩ y).setCell ⟨g,2,none⟩ z) :=
 ((h.setCell hg _).setCell hg _).setCell hg _
theorem zBm {B:Nat} {a w:World} (h:Below B a w) {g:Nat} (hg:B≤g) (x y z x' y' z':Value) :
 Below B a ((((((w.setCell ⟨g,0,none⟩ x).setCell ⟨g,1,none⟩ y).setCell ⟨g,2,none⟩ z).setCell ⟨g,3,none⟩ x').setCell ⟨g,4,none⟩ y').setCell ⟨g,5,none⟩ z') :=
 (((((h.setCell hg _).setCell hg _).setCell hg _).setCell hg _).setCell hg _).setCell hg _
theorem zBn {B:Nat} {a w:World} (h:Below B a w) {g:Nat} (hg:B≤g) (x y z x' y' z' s:Value) :
 Below B a (((((((w.setCell ⟨g,0,none⟩ x).setCell ⟨g,1,none⟩ y).setCell ⟨g,2,none⟩ z).setCell ⟨g,3,none⟩ x').setCell ⟨g,4,none⟩ y').setCell ⟨g,5,none⟩ z').setCell ⟨g,6,none⟩ s) :=
 ((((((h.setCell hg _).setCell hg _).setCell hg _).setCell hg _).setCell hg _).setCell hg _).setCell hg _
def Byt (t:List Int):Prop := ∀ x∈t,0≤x∧x≤255
theorem Byt.drop {t:List Int} (h:Byt t) (k:Nat):Byt (t.drop k):=fun x hx=>h x (List.mem_of_mem_drop hx)
theorem Byt.take {t:List Int} (h:Byt t) (k:Nat):Byt (t.take k):=fun x hx=>h x (List.mem_of_mem_take hx)
theorem Byt.append {t u:List Int} (h:Byt t) (h':Byt u):Byt (t++u):=fun x hx=>by
 rcases List.mem_append.1 hx with h1 | h1
 · exact h x h1
 · exact h' x h1
theorem Byt.get {t:List Int} (h:Byt t) {k:Nat} {x:Int} (hx:t[k]? = some x):0≤x∧x≤255:=h x (List.mem_of_getElem? hx)
theorem zM1 (t u:List Int):strOfNums t++strOfNums u=strOfNums (t++u):=by
 apply ByteArray.ext;simp [strOfNums]
theorem zM2 (t:List Int) (a b:Nat):(strOfNums t).extract a b=strOfNums ((t.drop a).take (b - a)):=by
 unfold strOfNums;rw [ByteArray.extract_mk,←List.map_drop,←List.map_take]
theorem zM4 {t:List Int} (h:Byt t) {k:Nat} {x:Int} (hx:t[k]? = some x) : ∃ hk:k<(strOfNums t).size,(((strOfNums t)[k]'hk).toNat:Int)=x:=by
 obtain ⟨hk,rfl⟩:=List.getElem?_eq_some_iff.1 hx;refine ⟨by rw [strOfNums_size];exact hk,?_⟩
 have h1:=h _ (List.getElem_mem hk)
 show (((strOfNums t).data[k]'_).toNat:Int)=t[k]
 simp [strOfNums,UInt8.toNat_ofNat'];omega
theorem za {P:Program} (T:TypeId) (hu:P.underlying T=some .string) {t:List Int} (hb:Byt t) {k:Nat} {x:Int} (h:t[k]? = some x) (w:World) :
 (Instr.index T (.string (strOfNums t)) (.int .i64 (k:Int))).run P w = .ok (.int .u8 x) w:=by
 obtain ⟨hk,hx⟩:=zM4 hb h;rw [run_index_string w T _ _ _ hu,dif_pos ⟨by omega,by omega⟩]
 simp only [Int.toNat_natCast];rw [hx]
def Slv (w:World) (a:Option Addr) (vs:List Value):Prop := ∀ i v,vs[i]? = some v → ∃ b off,a=some ⟨b,off,none⟩∧w.cell? ⟨b,off+i,none⟩=some v
theorem Slv.nil (w:World) (a:Option Addr):Slv w a []:=fun i x h=>by simp at h
theorem Slv.below {w w':World} {a:Option Addr} {vs:List Value} (h:Slv w a vs) (hb:Below w.heap.size w w'):Slv w' a vs:=by
 intro i x hx;obtain ⟨b,off,rfl,hc⟩:=h i x hx;exact ⟨b,off,rfl,cell_later hb hc⟩
def Ownv (w:World) (B:Nat) (e:TypeId) (v:Value) (vs:List Value):Prop:=w.ownsRow B e 1 v vs.length vs
theorem Ownv.nil (w:World) (B:Nat) (e:TypeId):Ownv w B e (.slice none 0 0) []:=World.ownsRow_nil w B e 1
theorem Ownv.form {w:World} {B:Nat} {e:TypeId} {v:Value} {vs:List Value} (h:Ownv w B e v vs) : ∃ a cap,v = .slice a vs.length cap∧Slv w a vs:=by
 rcases h.2 with ⟨rfl,hn⟩ | ⟨g,cap,cur,rfl,hb,hg,hnc,Ld,Lr,ht⟩
 · have hx:vs=[]:=List.eq_nil_of_length_eq_zero hn;subst hx;exact ⟨none,0,rfl,Slv.nil _ _⟩
 · refine ⟨_,cap,rfl,fun i x hx=>⟨g,0,rfl,?_⟩⟩;have hi:i<vs.length:=(List.getElem?_eq_some_iff.1 hx).1;have LO:w.cell? ⟨g,i,none⟩=cur[i]? := by simp [World.cell?,hg]
   rw [Nat.zero_add,LO];rw [←ht,List.getElem?_take,if_pos (by omega)] at hx
   simpa using hx
theorem Ownv.form1 {w:World} {B:Nat} {e:TypeId} {v:Value} {vs:List Value} (h:Ownv w B e v vs) (hn:0<vs.length) : ∃ g cap,v = .slice (some ⟨g,0,none⟩) vs.length cap∧Slv w (some ⟨g,0,none⟩) vs∧B≤g∧g<w.heap.size:=by
 obtain ⟨a,cap,he,hs⟩:=h.form;rcases h.2 with ⟨_,hz⟩ | ⟨g,Et,cur,hv,hb,hg,_⟩
 · omega
 · rw [hv] at he;injection he with h1 h2 h3;exact ⟨g,Et,hv,by rw [h1];exact hs,hb,(Array.getElem?_eq_some_iff.1 hg).1⟩
theorem Slv.grown {w w':World} {g off:Nat} {vs:List Value} {row:Option Nat} (h:Slv w (some ⟨g,off,none⟩) vs) (hg:w.grownBy w' row) (Ph:row ≠ some g):Slv w' (some ⟨g,off,none⟩) vs:=by
 intro i x hx;obtain ⟨b,o,he,hc⟩:=h i x hx;simp only [Option.some.injEq,Addr.mk.injEq,and_true] at he;obtain ⟨rfl,rfl⟩:=he;refine ⟨_,_,rfl,?_⟩;have hlt:=World.block_lt_of_cell? w _ hc;rw [World.cell?_of_block (hg.block _ hlt (fun e=>Ph e.symm))];exact hc
theorem Ownv.sl {w:World} {B:Nat} {e:TypeId} {a:Option Addr} {n c:Nat} {vs:List Value} (h:Ownv w B e (.slice a n c) vs):Slv w a vs:=by
 obtain ⟨a',c',he,hs⟩:=h.form;injection he with h1 h2 h3;subst h1;exact hs
theorem Ownv.lt {w:World} {B:Nat} {e:TypeId} {v:Value} {vs:List Value} (h:Ownv w B e v vs) : ∀ g,v.ownBlock=some g→B≤g∧g<w.heap.size:=World.ownsRow.lt h
theorem Ownv.below {w w':World} {B:Nat} {e:TypeId} {v:Value} {vs:List Value} (h:Ownv w B e v vs) (hb:Below w.heap.size w w'):Ownv w' B e v vs :=
 World.ownsRow.kept (row:=none) h ⟨hb.os,hb.tape,hb.output,hb.size,fun i hi _=>hb.block i hi⟩ (by cases v.ownBlock <;> simp)
theorem Ownv.alloc {w:World} {B:Nat} {e:TypeId} {v:Value} {vs:List Value} (h:Ownv w B e v vs) (o:Obj):Ownv (w.alloc o) B e v vs:=World.ownsRow.alloc h o
theorem Ownv.base {w:World} {B B':Nat} {e:TypeId} {v:Value} {vs:List Value} (h:Ownv w B e v vs) (hB:B'≤B):Ownv w B' e v vs:=by
 refine ⟨h.1,h.2.imp id ?_⟩;rintro ⟨g,cap,cur,h1,h2,h3⟩;exact ⟨g,cap,cur,h1,Nat.le_trans hB h2,h3⟩
theorem Ownv.grown {w w':World} {B:Nat} {e:TypeId} {v:Value} {vs:List Value} (h:Ownv w B e v vs) {row:Option Nat} (hg:w.grownBy w' row) (Ph:v.ownBlock=none∨v.ownBlock ≠ row):Ownv w' B e v vs:=World.ownsRow.kept h hg Ph
theorem zAH {P:Program} {w:World} {ops:Array Oper} {rest:List Oper} {o:Oper} {a:Act} {Q:Exit→Act→World→Prop} (NF:o.guard=none) (s x:Operand) (t:TypeId)
 (ho:o.op = .call { callee:=.builtin .append,args:=#[s,x],argTypes:=#[t,t] })
 (e:TypeId) (z:Value) (bytes:Nat) (L1:bytes≤24) (ht:P.underlying t=some (.slice e))
 (hi:(P.info? e).map (fun i=>(i.zero,i.size,i.bytes))=some (some z,1,bytes)) (TZ:z.cells.size=1)
 (B:Nat) (v:Value) (vs:List Value) (hs:a.eval s=v) (QQ:Ownv w B e v vs) (u:Value) (SL:u.oneCell'=true)
 (ad:Addr) (c:Nat) (hx:a.eval x = .slice (some ad) 1 c) (LO:w.cell? ad=some u) (Od:vs.length≤1000000000) (KH:B≤w.heap.size)
 (h : ∀ v' w',Ownv w' B e v' (vs++[u])→w.grownBy w' v.ownBlock→(v'.ownBlock=v.ownBlock∨v'.ownBlock=some w.heap.size)→wpList P ops Q rest (a.put o.dst v') w') :
 wpList P ops Q (o::rest) a w:=by
 obtain ⟨i0,Na,TQ,TR,TS⟩:=info_parts hi;refine wpList_plain NF fun K hK=>?_
 have Pn : ∀ j u',[u][j]? = some u'→w.cell? (ad.add j)=some u':=by
  intro j u' hu
  match j with
  | 0=>simp at hu;subst hu;simpa [Addr.add] using LO
  | j+1=>simp at hu
 obtain ⟨v',w',hr,h2,h3,_,h4⟩:=run_append_own_at (P:=P) w B t o.type e i0 z 1 bytes ht Na TQ TR TS TZ (by omega) v vs.length _ QQ ad 1 c [u] rfl Pn (by simpa using SL)
  (by simp only [maxLen];omega) (by have:(vs.length+1) * bytes≤(vs.length+1) * 24:=Nat.mul_le_mul_left _ L1;omega) KH
 unfold Oper.wp execOp;simp only [ho,resolve,invoke,builtin,Sem.run_bind,Sem.run_pure,Result.andThen_ok,List.map_toArray,List.map_cons,List.map_nil,hs,hx,hr];exact hK _ _ (h v' w' (by unfold Ownv;simpa using h2) h3 h4)
def zM5 (ls:List (List Int)):List Value:=ls.map fun l=>.string (strOfNums l)
theorem zAC (ls:List (List Int)):(zM5 ls).length=ls.length:=by unfold zM5;rw [List.length_map]
theorem zM6 {ls:List (List Int)} {i:Nat} {l:List Int} (h:ls[i]? = some l):(zM5 ls)[i]? = some (.string (strOfNums l)):=by unfold zM5;rw [List.getElem?_map,h];rfl
theorem zM7 (ls:List (List Int)) (l:List Int):zM5 (ls++[l])=zM5 ls++[.string (strOfNums l)]:=by unfold zM5;rw [List.map_append];rfl
def zAd (w w':World) (v:Value) (n:Nat):Prop := ∀ g,v.ownBlock=some g → ∀ cur e,w.heap[g]? = some (.cells cur e (0,0)) → ∃ cur',w'.heap[g]? = some (.cells cur' e (0,0))∧cur'.size=cur.size∧cur'.toList.take n=cur.toList.take n
structure Added (w w':World) (v v':Value) (n:Nat):Prop where
 grown:w.grownBy w' v.ownBlock
 keeps:zAd w w' v n
 where_:v'.ownBlock=v.ownBlock ∨ ∀ g,v'.ownBlock=some g→w.heap.size≤g
theorem Added.refl (w:World) (v:Value) (n:Nat):Added w w v v n:=⟨⟨rfl,rfl,rfl,Nat.le_refl _,fun _ _ _=>rfl⟩,fun _ _ cur _e h=>⟨cur,h,rfl,rfl⟩,.inl rfl⟩
theorem Added.below {w w1 w':World} {v v':Value} {n:Nat} (h:Added w w1 v v' n) (hb:Below w1.heap.size w1 w'):Added w w' v v' n:=by
 refine ⟨⟨hb.os.trans h.grown.os,hb.tape.trans h.grown.tape,hb.output.trans h.grown.output,Nat.le_trans h.grown.size hb.size,fun k hk Ph=>(hb.block k (Nat.lt_of_lt_of_le hk h.grown.size)).trans (h.grown.block k hk Ph)⟩,fun g hg cur e hc=>?_,h.where_⟩;obtain ⟨cur',h1,h2,h3⟩:=h.keeps g hg cur e hc;exact ⟨cur',(hb.block g (Array.getElem?_eq_some_iff.1 h1).1).trans h1,h2,h3⟩
theorem Added.after {w w1 w':World} {v v':Value} {n:Nat} (hb:Below w.heap.size w w1) (h:Added w1 w' v v' n) (hv : ∀ g,v.ownBlock=some g→g<w.heap.size):Added w w' v v' n:=by
 refine ⟨⟨h.grown.os.trans hb.os,h.grown.tape.trans hb.tape,h.grown.output.trans hb.output,Nat.le_trans hb.size h.grown.size,fun k hk Ph=>(h.grown.block k (Nat.lt_of_lt_of_le hk hb.size) Ph).trans (hb.block k hk)⟩,fun g hg cur e hc=>?_,?_⟩
 · exact h.keeps g hg cur e ((hb.block g (hv g hg)).trans hc)
 · rcases h.where_ with h1 | h1
   · exact .inl h1
   · exact .inr fun g hg=>Nat.le_trans hb.size (h1 g hg)
theorem Added.trans {w w1 w':World} {v v1 v':Value} {n m:Nat} (h:Added w w1 v v1 n) (h':Added w1 w' v1 v' m) (hnm:n≤m) (hlt : ∀ g,v.ownBlock=some g→g<w.heap.size):Added w w' v v' n:=by
 have Ph : ∀ k,k<w.heap.size→some k ≠ v.ownBlock→some k ≠ v1.ownBlock:=fun k hk Ph e=>by
  rcases h.where_ with h1 | h1
  · exact Ph (by rw [←h1];exact e)
  · have:=h1 k e.symm;omega
 refine ⟨⟨h'.grown.os.trans h.grown.os,h'.grown.tape.trans h.grown.tape,h'.grown.output.trans h.grown.output,Nat.le_trans h.grown.size h'.grown.size,fun k hk hn=>(h'.grown.block k (Nat.lt_of_lt_of_le hk h.grown.size) (Ph k hk hn)).trans (h.grown.block k hk hn)⟩,fun g hg cur e hc=>?_,?_⟩
 · obtain ⟨cur1,h1,h2,h3⟩:=h.keeps g hg cur e hc;rcases h.where_ with he | he
   · obtain ⟨cur',h4,h5,h6⟩:=h'.keeps g (by rw [he];exact hg) cur1 e h1
     refine ⟨cur',h4,h5.trans h2,?_⟩
     have:cur'.toList.take n=cur1.toList.take n:=by
      have h7:=congrArg (List.take n) h6;rwa [List.take_take,List.take_take,Nat.min_eq_left hnm] at h7
     exact this.trans h3
   · refine ⟨cur1,(h'.grown.block g (Array.getElem?_eq_some_iff.1 h1).1 fun e1=>?_).trans h1,h2,h3⟩;have:=he g e1.symm;have:=hlt g hg;omega
 · rcases h'.where_ with he | he
   · rw [he];exact h.where_
   · exact .inr fun g hg=>Nat.le_trans h.grown.size (he g hg)
theorem Ownv.keep {w w':World} {v v' u:Value} {n B:Nat} {e:TypeId} {vs:List Value} (h:Added w w' v v' n) (hu:Ownv w B e u vs) (hn:vs.length≤n):Ownv w' B e u vs:=by
 by_cases hs:u.ownBlock=v.ownBlock
 · refine ⟨hu.1,?_⟩;rcases hu.2 with h1 | ⟨g,cap,cur,rfl,hb,hg,hnc,Ld,Lr,ht⟩
   · exact .inl h1
   · obtain ⟨cur',h1,h2,h3⟩:=h.keeps g (by rw [←hs];rfl) cur e hg
     refine .inr ⟨g,cap,cur',rfl,hb,h1,hnc,Ld,h2.trans Lr,?_⟩;rw [Nat.mul_one] at ht ⊢;have h7:=congrArg (List.take vs.length) h3;rw [List.take_take,List.take_take,Nat.min_eq_left hn] at h7;exact h7.trans ht
 · exact Ownv.grown hu h.grown (.inr hs)
theorem zLv {P:Program} (w:World) (base:Nat) (t ty e:TypeId) (i:TypeInfo) (z:Value) (bytes:Nat) (ht:P.underlying t=some (.slice e)) (hi:P.info? e=some i) (hz:i.zero=some z)
 (Rl:i.size=1) (Kz:i.bytes=bytes) (TZ:z.cells.size=1) (v:Value) (n:Nat) (xs:List Value) (QQ:w.ownsRow base e 1 v n xs)
 (a:Addr) (c:Nat) (u:Value) (Pn : ∀ j u',[u][j]? = some u'→w.cell? (a.add j)=some u') (h1:u.oneCell'=true)
 (Gy:n+1≤maxLen) (L0:(n+1) * bytes≤140737488355328) (KH:base≤w.heap.size) :
 ∃ v' w',(Builtin.append_ #[t,t] ty #[v,.slice (some a) 1 c]).run P w = .ok v' w'∧w'.ownsRow base e 1 v' (n+1) (xs++[u])∧Added w w' v v' n:=by
 have Gr : ∀ u'∈[u],u'.oneCell'=true:=by simpa using h1
 obtain ⟨v',w',hr,h2,h3,_,h4⟩:=run_append_own_at (P:=P) w base t ty e i z 1 bytes ht hi hz Rl Kz TZ (by omega) v n xs QQ a 1 c [u] rfl Pn Gr Gy L0 KH
 refine ⟨v',w',hr,h2,h3,?_,h4.imp id fun e g hg=>by rw [e] at hg;injection hg with hg;omega⟩
 rcases QQ.2 with ⟨rfl,rfl⟩ | ⟨g,cap,cur,rfl,hbg,hg,hnc,Ld,Lr,htake⟩
 · intro g hg;cases hg
 · intro g1 N3 cur1 e1 L3;injection N3 with N3;change g=g1 at N3;subst N3;rw [hg] at L3;injection L3 with L3;injection L3 with L3 L5;subst L3 L5;by_cases hroom:n+1≤cap
   · have R9:=run_append_room (P:=P) w t ty e i ht hi g n cap cur hg a 1 c [u] (by rw [Rl];rfl) Pn Gr hroom (by rw [Rl,Lr];simp;omega)
     rw [hr] at R9;injection R9 with e1 e2;subst e2;rw [Rl,Nat.mul_one];refine ⟨_,setRow_heap w g cur _ e _ hg,?_,?_⟩
     · simp only [List.size_toArray,List.length_append,List.length_take,List.length_drop,Array.length_toList,List.length_cons,List.length_nil];omega
     · simp only [List.append_assoc];rw [List.take_append_of_le_length (by rw [List.length_take,Array.length_toList];omega),List.take_take,Nat.min_self]
   · have holds : ∀ j u',xs[j]? = some u'→w.cell? ((⟨g,0,none⟩:Addr).add j)=some u':=QQ.cells (g:=g) rfl;have R9:=run_append_grow (P:=P) w t ty e i z ht hi hz ⟨g,0,none⟩ n cap xs (by rw [Rl];exact QQ.1) holds a 1 c [u] (by rw [Rl];rfl) Pn (by omega) (by simp only [maxLen] at Gy;omega) (growslice_fits (by omega) (by rw [Kz];exact L0))
     rw [hr] at R9;injection R9 with e1 e2;subst e2;exact ⟨cur,(heap_alloc_old w.drew _ (Array.getElem?_eq_some_iff.1 hg).1).trans hg,rfl,rfl⟩
theorem zOX {P:Program} {w:World} {ops:Array Oper} {rest:List Oper} {o:Oper} {a:Act} {Q:Exit→Act→World→Prop} (NF:o.guard=none) (s x:Operand) (t:TypeId)
 (ho:o.op = .call { callee:=.builtin .append,args:=#[s,x],argTypes:=#[t,t] })
 (e:TypeId) (z:Value) (bytes:Nat) (L1:bytes≤24) (ht:P.underlying t=some (.slice e))
 (hi:(P.info? e).map (fun i=>(i.zero,i.size,i.bytes))=some (some z,1,bytes)) (TZ:z.cells.size=1)
 (B:Nat) (v:Value) (vs:List Value) (hs:a.eval s=v) (QQ:Ownv w B e v vs) (u:Value) (SL:u.oneCell'=true)
 (ad:Addr) (c:Nat) (hx:a.eval x = .slice (some ad) 1 c) (LO:w.cell? ad=some u) (Od:vs.length≤1000000000) (KH:B≤w.heap.size)
 (h : ∀ v' w',Ownv w' B e v' (vs++[u])→Added w w' v v' vs.length→wpList P ops Q rest (a.put o.dst v') w') :
 wpList P ops Q (o::rest) a w:=by
 obtain ⟨i0,Na,TQ,TR,TS⟩:=info_parts hi;refine wpList_plain NF fun K hK=>?_
 have Pn : ∀ j u',[u][j]? = some u'→w.cell? (ad.add j)=some u':=by
  intro j u' hu
  match j with
  | 0=>simp at hu;subst hu;simpa [Addr.add] using LO
  | j+1=>simp at hu
 obtain ⟨v',w',hr,h2,h3⟩:=zLv (P:=P) w B t o.type e i0 z bytes ht Na TQ TR TS TZ v vs.length _ QQ ad c u Pn SL
  (by simp only [maxLen];omega) (by have:(vs.length+1) * bytes≤(vs.length+1) * 24:=Nat.mul_le_mul_left _ L1;omega) KH
 unfold Oper.wp execOp;simp only [ho,resolve,invoke,builtin,Sem.run_bind,Sem.run_pure,Result.andThen_ok,List.map_toArray,List.map_cons,List.map_nil,hs,hx,hr];exact hK _ _ (h v' w' (by unfold Ownv;simpa using h2) h3)
end
section
open Go.RowKit Go.Maps
open Go.WideMaps (KeyLaw)
theorem zeroI (w:World):(zeroValue 3).run Tryz.prog w = .ok (.int .i64 0) w:=by kernel_rfl
theorem zIv:laidOutB Tryz.prog=true:=by kernel_rfl
theorem zIw:KeyLaw Tryz.prog 145:=deep_law_laid zIv (m:=3) (by omega) (of_decide_eq_true (by kernel_rfl)) (by kernel_rfl) (by kernel_rfl)
theorem zIu:Keyed Tryz.prog 145:=Keyed.of_law zIw
theorem zJh {P:Program} {k:TypeId} {R:Value→Option (DataW Unit × List MemPlace)} {w:World} {b n:Nat} {D:DataW Unit} (h:w.ownsMap P k R b n D):w.ownsMap P k R b (size D) D:=by
 obtain ⟨es,clock,hb,F,hs,rfl⟩:=h;exact ⟨es,clock,hb,F,by rw [size_eq,length_sorted];simp,rfl⟩
def MapFn (w:World) (b n:Nat) (f:Value→Option Int):Prop :=
 ∃ D : DataW Unit, w.ownsMap Tryz.prog 145 (plainElem Tryz.prog 3) b n D ∧ size D = n ∧
   ∀ key kl,keyOf Tryz.prog 145 key=some kl→(f key=none→has D kl=false) ∧ ∀ i,f key=some i→has D kl=true∧D.atKey kl (.lit (.int .i64 0)) = .lit (.int .i64 i)
theorem MapFn.kept {w w':World} {b n:Nat} {f:Value→Option Int} {row:Option Nat} (h:MapFn w b n f) (hg:w.grownBy w' row) (Ph:some b ≠ row):MapFn w' b n f:=by
 obtain ⟨D,h1,hs,h2⟩:=h;exact ⟨D,h1.kept hg Ph,hs,h2⟩
theorem MapFn.lt {w:World} {b n:Nat} {f:Value→Option Int} (h:MapFn w b n f):b<w.heap.size:=by
 obtain ⟨D,h1,_⟩:=h;exact h1.lt
theorem MapFn.made (w:World):MapFn (w.alloc (.map #[] 0)) w.heap.size 0 (fun _=>none) :=
 ⟨_,World.ownsMap_made w _ _ _,rfl,fun key kl hk=>⟨fun _=>rfl,fun i h=>by cases h⟩⟩
theorem MapFn.look {w:World} {b n:Nat} {f:Value→Option Int} (h:MapFn w b n f) {key:Value} {kl:Lit} (OG:keyOf Tryz.prog 145 key=some kl) :
 (∀ i,f key=some i→(Instr.lookup 111 (.map (some b)) key true).run Tryz.prog w = .ok (.tuple #[.int .i64 i,.bool true]) w) ∧
 (f key=none→(Instr.lookup 111 (.map (some b)) key true).run Tryz.prog w = .ok (.tuple #[.int .i64 0,.bool false]) w):=by
 obtain ⟨D,h1,hs,h2⟩:=h;obtain ⟨v,ps,RP,hv⟩:=h1.look_ok zIu Tryz.underlying111 (zeroI w) (plainElem_int Tryz.underlying3 (by decide)) OG
 obtain ⟨c,rfl,hc,hwc⟩:=plainElem_int_inv Tryz.underlying3 hv;have Jk:=congrArg Prod.fst hc;obtain ⟨k1,k2⟩:=h2 key kl OG;refine ⟨fun i hi=>?_,fun hn=>?_⟩
 · obtain ⟨e1,e2⟩:=k2 i hi;rw [e1] at RP;simp only at Jk
   rw [e2] at Jk
   injection Jk with Jk;injection Jk with _ Jk
   subst Jk;exact RP
 · have hh:=k1 hn;rw [hh] at RP;simp only at Jk
   rw [atKey_of_not_has hh] at Jk
   injection Jk with Jk;injection Jk with _ Jk
   subst Jk;exact RP
open Classical in
theorem MapFn.put {w:World} {b n:Nat} {f:Value→Option Int} (h:MapFn w b n f) (hn:n<maxLen) {key:Value} {kl:Lit} (OG:keyOf Tryz.prog 145 key=some kl) (hf:f key=none) (i:Int) (hi:(Lit.int .i64 i).wf=true) :
 ∃ w',(Instr.mapUpdate 111 (.map (some b)) key (.int .i64 i)).run Tryz.prog w = .ok () w'∧MapFn w' b (n+1) (fun v=>if v=key then some i else f v)∧w.grownBy w' (some b):=by
 obtain ⟨D,h1,hs,h2⟩:=h;have hm:=h1.isMap;obtain ⟨w',RP,h3,h4⟩:=h1.store zIu Tryz.underlying111 hn OG (plainElem_int Tryz.underlying3 hi)
 have S9:size (D.put kl (.lit (.int .i64 i)))=n+1:=by
  rw [size_put (h1.tidy zIu),(h2 key kl OG).1 hf,hs];rfl
 refine ⟨w',RP,⟨_,h3,S9,fun key' kl' hk'=>?_⟩,h4.grown⟩;by_cases e:key'=key
 · subst e;obtain rfl:kl'=kl:=Option.some.inj (hk'.symm.trans OG);simp only [if_true];refine ⟨fun h=>by simp at h,fun j hj=>?_⟩
   obtain rfl:=Option.some.inj hj;exact ⟨has_put_same hm (zIu.key OG) _,atKey_put_same hm (zIu.key OG) _ _⟩
 · have Ph:kl' ≠ kl:=fun e'=>e (zIu.inj hk' (e' ▸ OG));simp only [if_neg e];obtain ⟨k1,k2⟩:=h2 key' kl' hk';exact ⟨fun h=>by rw [has_put_other Ph];exact k1 h,fun j hj=>by rw [has_put_other Ph,atKey_put_other Ph];exact k2 j hj⟩
open Classical in
theorem MapFn.drop {w:World} {b n:Nat} {f:Value→Option Int} (h:MapFn w b n f) {key:Value} {kl:Lit} (OG:keyOf Tryz.prog 145 key=some kl) {i:Int} (hf:f key=some i) (ty:TypeId) :
 ∃ w',(Builtin.delete_ #[111,145] ty #[.map (some b),key]).run Tryz.prog w = .ok (.tuple #[]) w'∧MapFn w' b (n - 1) (fun v=>if v=key then none else f v)∧w.grownBy w' (some b):=by
 obtain ⟨D,h1,hs,h2⟩:=h;obtain ⟨w',RP,h3,h4⟩:=h1.drop zIu Tryz.underlying111 OG ty
 have S9:size (D.del kl)=n - 1:=by
  have:=size_del (k:=kl) (h1.tidy zIu);rw [((h2 key kl OG).2 i hf).1,hs] at this;simp at this;omega
 refine ⟨w',RP,⟨_,by have:=zJh h3;rwa [S9] at this,S9,fun key' kl' hk'=>?_⟩,h4.grown⟩
 by_cases e:key'=key
 · subst e;obtain rfl:kl'=kl:=Option.some.inj (hk'.symm.trans OG);simp only [if_true];exact ⟨fun _=>has_del_same,fun j hj=>by cases hj⟩
 · have Ph:kl' ≠ kl:=fun e'=>e (zIu.inj hk' (e' ▸ OG));simp only [if_neg e];obtain ⟨k1,k2⟩:=h2 key' kl' hk';exact ⟨fun h=>by rw [has_del_other Ph];exact k1 h,fun j hj=>by rw [has_del_other Ph,atKey_del_other Ph];exact k2 j hj⟩
theorem MapFn.congr {w:World} {b n:Nat} {f f':Value→Option Int} (h:MapFn w b n f) (he : ∀ key kl,keyOf Tryz.prog 145 key=some kl→f key=f' key):MapFn w b n f':=by
 obtain ⟨D,h1,hs,h2⟩:=h;refine ⟨D,h1,hs,fun key kl hk=>?_⟩;rw [←he key kl hk];exact h2 key kl hk
end
section
open Go.RowKit Go.Maps
def zIq (k c:Int) (s:ByteArray) (d x0 x1 x2 x3 x4 x5 x6 x7:Int):Value :=
 .agg #[.int .i64 k,.int .i64 c,.string s,.int .i64 d,.int .i64 x0,.int .i64 x1,.int .i64 x2,.int .i64 x3,.int .i64 x4,.int .i64 x5,.int .i64 x6,.int .i64 x7]
theorem zIr : Tryz.prog.cellsOf 145=12:=by kernel_rfl
theorem zBT : Tryz.prog.cellsOf 108=8:=by kernel_rfl
theorem zGs : Tryz.prog.cellsOf 3=1:=by kernel_rfl
theorem zMy : Tryz.prog.cellsOf 9=1:=by kernel_rfl
theorem zIt : Tryz.prog.keyType 145=true:=by kernel_rfl
theorem zNw : ∃ m,Tryz.prog.types.size+1=m+3:=⟨Tryz.prog.types.size - 2,by have:2 ≤ Tryz.prog.types.size:=of_decide_eq_true (by kernel_rfl);omega⟩
theorem zG8 (k c:Int) (s:ByteArray) (d x0 x1 x2 x3 x4 x5 x6 x7:Int) (hs:s.size≤maxLen)
 (h : ∀ y∈[k,c,d,x0,x1,x2,x3,x4,x5,x6,x7],(Lit.int .i64 y).wf=true) : ∃ kl,keyOf Tryz.prog 145 (zIq k c s d x0 x1 x2 x3 x4 x5 x6 x7)=some kl:=by
 simp only [List.mem_cons,List.not_mem_nil,or_false,forall_eq_or_imp,forall_eq] at h;obtain ⟨h1,h2,h3,g0,g1,g2,g3,g4,g5,g6,g7⟩:=h;obtain ⟨m,hm⟩:=zNw;unfold keyOf zIq;rw [Tryz.underlying145,hm];simp [zIt,Value.formed,Tryz.underlying145,zIr,Program.keyLits,Value.cells,Tryz.underlying108,Tryz.underlying3,Tryz.underlying9,zGs,zMy,zBT,hs,h1,h2,h3,g0,g1,g2,g3,g4,g5,g6,g7,List.range_succ,List.mapM_cons,List.mapM_nil]
end
section
open Go.RowKit
theorem Bk.c2 {w:World} {g:Nat} {x0 x1:Value} {r:List Value} {t:TypeId} (h:Bk w g (x0::x1::r).toArray t):w.cell? ⟨g,0,none⟩=some x0∧w.cell? ⟨g,1,none⟩=some x1 :=
 ⟨h.cell 0 rfl,h.cell 1 rfl⟩
theorem Bk.f2 {w:World} {g:Nat} {cs:Array Value} {t:TypeId} (h:Bk w g cs t):w.frozen? ⟨g,0,none⟩=false∧w.frozen? ⟨g,1,none⟩=false :=
 ⟨h.frozen 0,h.frozen 1⟩
theorem Bk.c3 {w:World} {g:Nat} {x0 x1 x2:Value} {r:List Value} {t:TypeId} (h:Bk w g (x0::x1::x2::r).toArray t):w.cell? ⟨g,0,none⟩=some x0∧w.cell? ⟨g,1,none⟩=some x1∧w.cell? ⟨g,2,none⟩=some x2 :=
 ⟨h.cell 0 rfl,h.cell 1 rfl,h.cell 2 rfl⟩
theorem Bk.f3 {w:World} {g:Nat} {cs:Array Value} {t:TypeId} (h:Bk w g cs t):w.frozen? ⟨g,0,none⟩=false∧w.frozen? ⟨g,1,none⟩=false∧w.frozen? ⟨g,2,none⟩=false :=
 ⟨h.frozen 0,h.frozen 1,h.frozen 2⟩
theorem Bk.c4 {w:World} {g:Nat} {x0 x1 x2 x3:Value} {r:List Value} {t:TypeId} (h:Bk w g (x0::x1::x2::x3::r).toArray t):w.cell? ⟨g,0,none⟩=some x0∧w.cell? ⟨g,1,none⟩=some x1∧w.cell? ⟨g,2,none⟩=some x2∧w.cell? ⟨g,3,none⟩=some x3 :=
 ⟨h.cell 0 rfl,h.cell 1 rfl,h.cell 2 rfl,h.cell 3 rfl⟩
theorem Bk.f4 {w:World} {g:Nat} {cs:Array Value} {t:TypeId} (h:Bk w g cs t):w.frozen? ⟨g,0,none⟩=false∧w.frozen? ⟨g,1,none⟩=false∧w.frozen? ⟨g,2,none⟩=false∧w.frozen? ⟨g,3,none⟩=false :=
 ⟨h.frozen 0,h.frozen 1,h.frozen 2,h.frozen 3⟩
theorem Bk.c5 {w:World} {g:Nat} {x0 x1 x2 x3 x4:Value} {r:List Value} {t:TypeId} (h:Bk w g (x0::x1::x2::x3::x4::r).toArray t):w.cell? ⟨g,0,none⟩=some x0∧w.cell? ⟨g,1,none⟩=some x1∧w.cell? ⟨g,2,none⟩=some x2∧w.cell? ⟨g,3,none⟩=some x3∧w.cell? ⟨g,4,none⟩=some x4 :=
 ⟨h.cell 0 rfl,h.cell 1 rfl,h.cell 2 rfl,h.cell 3 rfl,h.cell 4 rfl⟩
theorem Bk.f5 {w:World} {g:Nat} {cs:Array Value} {t:TypeId} (h:Bk w g cs t):w.frozen? ⟨g,0,none⟩=false∧w.frozen? ⟨g,1,none⟩=false∧w.frozen? ⟨g,2,none⟩=false∧w.frozen? ⟨g,3,none⟩=false∧w.frozen? ⟨g,4,none⟩=false :=
 ⟨h.frozen 0,h.frozen 1,h.frozen 2,h.frozen 3,h.frozen 4⟩
theorem Bk.c6 {w:World} {g:Nat} {x0 x1 x2 x3 x4 x5:Value} {r:List Value} {t:TypeId} (h:Bk w g (x0::x1::x2::x3::x4::x5::r).toArray t):w.cell? ⟨g,0,none⟩=some x0∧w.cell? ⟨g,1,none⟩=some x1∧w.cell? ⟨g,2,none⟩=some x2∧w.cell? ⟨g,3,none⟩=some x3∧w.cell? ⟨g,4,none⟩=some x4∧w.cell? ⟨g,5,none⟩=some x5 :=
 ⟨h.cell 0 rfl,h.cell 1 rfl,h.cell 2 rfl,h.cell 3 rfl,h.cell 4 rfl,h.cell 5 rfl⟩
theorem Bk.f6 {w:World} {g:Nat} {cs:Array Value} {t:TypeId} (h:Bk w g cs t):w.frozen? ⟨g,0,none⟩=false∧w.frozen? ⟨g,1,none⟩=false∧w.frozen? ⟨g,2,none⟩=false∧w.frozen? ⟨g,3,none⟩=false∧w.frozen? ⟨g,4,none⟩=false∧w.frozen? ⟨g,5,none⟩=false :=
 ⟨h.frozen 0,h.frozen 1,h.frozen 2,h.frozen 3,h.frozen 4,h.frozen 5⟩
theorem Bk.c7 {w:World} {g:Nat} {x0 x1 x2 x3 x4 x5 x6:Value} {r:List Value} {t:TypeId} (h:Bk w g (x0::x1::x2::x3::x4::x5::x6::r).toArray t):w.cell? ⟨g,0,none⟩=some x0∧w.cell? ⟨g,1,none⟩=some x1∧w.cell? ⟨g,2,none⟩=some x2∧w.cell? ⟨g,3,none⟩=some x3∧w.cell? ⟨g,4,none⟩=some x4∧w.cell? ⟨g,5,none⟩=some x5∧w.cell? ⟨g,6,none⟩=some x6 :=
 ⟨h.cell 0 rfl,h.cell 1 rfl,h.cell 2 rfl,h.cell 3 rfl,h.cell 4 rfl,h.cell 5 rfl,h.cell 6 rfl⟩
theorem Bk.f7 {w:World} {g:Nat} {cs:Array Value} {t:TypeId} (h:Bk w g cs t):w.frozen? ⟨g,0,none⟩=false∧w.frozen? ⟨g,1,none⟩=false∧w.frozen? ⟨g,2,none⟩=false∧w.frozen? ⟨g,3,none⟩=false∧w.frozen? ⟨g,4,none⟩=false∧w.frozen? ⟨g,5,none⟩=false∧w.frozen? ⟨g,6,none⟩=false :=
 ⟨h.frozen 0,h.frozen 1,h.frozen 2,h.frozen 3,h.frozen 4,h.frozen 5,h.frozen 6⟩
theorem Bk.c8 {w:World} {g:Nat} {x0 x1 x2 x3 x4 x5 x6 x7:Value} {r:List Value} {t:TypeId} (h:Bk w g (x0::x1::x2::x3::x4::x5::x6::x7::r).toArray t):w.cell? ⟨g,0,none⟩=some x0∧w.cell? ⟨g,1,none⟩=some x1∧w.cell? ⟨g,2,none⟩=some x2∧w.cell? ⟨g,3,none⟩=some x3∧w.cell? ⟨g,4,none⟩=some x4∧w.cell? ⟨g,5,none⟩=some x5∧w.cell? ⟨g,6,none⟩=some x6∧w.cell? ⟨g,7,none⟩=some x7 :=
 ⟨h.cell 0 rfl,h.cell 1 rfl,h.cell 2 rfl,h.cell 3 rfl,h.cell 4 rfl,h.cell 5 rfl,h.cell 6 rfl,h.cell 7 rfl⟩
theorem Bk.f8 {w:World} {g:Nat} {cs:Array Value} {t:TypeId} (h:Bk w g cs t):w.frozen? ⟨g,0,none⟩=false∧w.frozen? ⟨g,1,none⟩=false∧w.frozen? ⟨g,2,none⟩=false∧w.frozen? ⟨g,3,none⟩=false∧w.frozen? ⟨g,4,none⟩=false∧w.frozen? ⟨g,5,none⟩=false∧w.frozen? ⟨g,6,none⟩=false∧w.frozen? ⟨g,7,none⟩=false :=
 ⟨h.frozen 0,h.frozen 1,h.frozen 2,h.frozen 3,h.frozen 4,h.frozen 5,h.frozen 6,h.frozen 7⟩
theorem Bk.c12 {w:World} {g:Nat} {x0 x1 x2 x3 x4 x5 x6 x7 x8 x9 V5 V7:Value} {r:List Value} {t:TypeId} (h:Bk w g (x0::x1::x2::x3::x4::x5::x6::x7::x8::x9::V5::V7::r).toArray t):w.cell? ⟨g,0,none⟩=some x0∧w.cell? ⟨g,1,none⟩=some x1∧w.cell? ⟨g,2,none⟩=some x2∧w.cell? ⟨g,3,none⟩=some x3∧w.cell? ⟨g,4,none⟩=some x4∧w.cell? ⟨g,5,none⟩=some x5∧w.cell? ⟨g,6,none⟩=some x6∧w.cell? ⟨g,7,none⟩=some x7∧w.cell? ⟨g,8,none⟩=some x8∧w.cell? ⟨g,9,none⟩=some x9∧w.cell? ⟨g,10,none⟩=some V5∧w.cell? ⟨g,11,none⟩=some V7 :=
 ⟨h.cell 0 rfl,h.cell 1 rfl,h.cell 2 rfl,h.cell 3 rfl,h.cell 4 rfl,h.cell 5 rfl,h.cell 6 rfl,h.cell 7 rfl,h.cell 8 rfl,h.cell 9 rfl,h.cell 10 rfl,h.cell 11 rfl⟩
theorem Bk.f12 {w:World} {g:Nat} {cs:Array Value} {t:TypeId} (h:Bk w g cs t):w.frozen? ⟨g,0,none⟩=false∧w.frozen? ⟨g,1,none⟩=false∧w.frozen? ⟨g,2,none⟩=false∧w.frozen? ⟨g,3,none⟩=false∧w.frozen? ⟨g,4,none⟩=false∧w.frozen? ⟨g,5,none⟩=false∧w.frozen? ⟨g,6,none⟩=false∧w.frozen? ⟨g,7,none⟩=false∧w.frozen? ⟨g,8,none⟩=false∧w.frozen? ⟨g,9,none⟩=false∧w.frozen? ⟨g,10,none⟩=false∧w.frozen? ⟨g,11,none⟩=false :=
 ⟨h.frozen 0,h.frozen 1,h.frozen 2,h.frozen 3,h.frozen 4,h.frozen 5,h.frozen 6,h.frozen 7,h.frozen 8,h.frozen 9,h.frozen 10,h.frozen 11⟩
instance : Coe Int Value := ⟨Value.int .i64⟩
theorem bl1 {w W : World} {o : Obj} (hW : World.alloc w o = W) : Below w.heap.size w W := by rw [← hW]; exact (Below.refl _ _).alloc (Nat.le_refl _) _
theorem bl2 {w W : World} {o p : Obj} (hW : World.alloc (World.alloc w o) p = W) : Below w.heap.size w W := by rw [← hW]; exact ((Below.refl _ _).alloc (Nat.le_refl _) _).alloc (by simp) _
theorem bl3 {w W : World} {o p q : Obj} (hW : World.alloc (World.alloc (World.alloc w o) p) q = W) : Below w.heap.size w W := by rw [← hW]; exact (((Below.refl _ _).alloc (Nat.le_refl _) _).alloc (by simp) _).alloc (by simp; omega) _
theorem sz1 {w W : World} {o : Obj} (hW : World.alloc w o = W) : w.heap.size + 1 ≤ W.heap.size := by rw [← hW]; simp
theorem sz2 {w W : World} {o p : Obj} (hW : World.alloc (World.alloc w o) p = W) : w.heap.size + 1 + 1 ≤ W.heap.size := by rw [← hW]; simp
theorem sz3 {w W : World} {o p q : Obj} (hW : World.alloc (World.alloc (World.alloc w o) p) q = W) : w.heap.size + 1 + 1 + 1 ≤ W.heap.size := by rw [← hW]; simp
theorem bk0 {w W : World} {o : Obj} {n : Nat} (hW : World.alloc w o = W) (h : n = w.heap.size := by simp) : W.heap[n]? = some o := by rw [← hW]; exact zC _ _ _ h
theorem bk1 {w W : World} {o p : Obj} {n : Nat} (hW : World.alloc (World.alloc w o) p = W) (h : n = w.heap.size := by simp) : W.heap[n]? = some o := by rw [← hW]; exact zD (zC _ _ _ h)
theorem bk2 {w W : World} {o p q : Obj} {n : Nat} (hW : World.alloc (World.alloc (World.alloc w o) p) q = W) (h : n = w.heap.size := by simp) : W.heap[n]? = some o := by rw [← hW]; exact zD (zD (zC _ _ _ h))
theorem tR {n:Nat} {w a b:World} (h:Below n w a) (k:Below a.heap.size a b) (hn:n≤a.heap.size):Below n w b:=h.trans (k.mono hn)
theorem tr {w a b:World} (h:Below w.heap.size w a) (k:Below a.heap.size a b):Below w.heap.size w b:=h.trans (k.mono h.size)
theorem bf {w:World} {o:Obj}:Below w.heap.size w (w.alloc o):=(Below.refl _ _).alloc (Nat.le_refl _) _
theorem br {B:Nat} {w:World}:Below B w w:=Below.refl _ _
theorem nlt {a b c:Nat} (h:a≤b) (k:b≤c):a≤c:=Nat.le_trans h k
theorem nll {a b c:Nat} (h:a<b) (k:b≤c):a<c:=Nat.lt_of_lt_of_le h k
theorem nlr {a:Nat}:a≤a:=Nat.le_refl a
theorem osi {α:Type} {a b:α} (h:some a=some b):a=b:=Option.some.inj h
theorem lge {α:Type} {l:List α} {i:Nat} (h:i<l.length):l[i]? = some l[i]:=List.getElem?_eq_getElem h
def wi:=@IntWalk.wrap64_in
def wj:=@IntWalk.i64_in
end
end Go.Proofs.YtfcbajmjaifjlaaGreat