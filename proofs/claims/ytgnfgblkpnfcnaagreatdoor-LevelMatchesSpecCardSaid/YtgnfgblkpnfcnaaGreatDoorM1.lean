/- Base, Map, Node, Vox: joined by program, for one claim. -/
import Derived.Test.YtgnfgblkpnfcnaaGreatDoorProg
import Derived.WalkKit
import Derived.WalkSpells
import Derived.WalkLawsBesides
import Derived.Lib.Hide
import Derived.Maps.AppendAt
import Derived.Deep.OwnRows
import Derived.Laws.BytesArg
import Derived.Laws.Rows
import Derived.Maps.OwnSet
import Derived.Maps.Views
import Derived.DeepKeys4
set_option maxRecDepth 100000
set_option linter.unusedVariables false
set_option linter.unusedSimpArgs false
namespace Go.Proofs.YtgnfgblkpnfcnaaGreatDoor
section
open Go.RowKit
structure Bx (p:Prop):Prop where
 out:p
theorem zt {a b:Int} (h:a=b):Ending.returned (.int .i64 a)=Ending.returned (.int .i64 b):=by rw [h]
theorem zr {a b:Bool} (h:a=b):Ending.returned (.bool a)=Ending.returned (.bool b):=by rw [h]
theorem zLL {a b:Nat} (h:a=b):Ending.returned (.int .i64 (a:Int))=Ending.returned (.int .i64 (b:Int)):=by rw [h]
theorem zBT {xs:List Int} {k n:Nat} (hn:Bx (xs.length=n)) (h:k<n) : ∃ x,xs[k]? = some x :=
 ⟨_,List.getElem?_eq_getElem (by rw [hn.out];exact h)⟩
theorem zH (w:World) (v:Value) (t:TypeId):(w.alloc (.cells #[v] t)).cell? ⟨w.heap.size,0,none⟩=some v:=by
 simp
theorem zMD (w:World) (a:Addr) (u:Value):(w.setCell a u).heap.size=w.heap.size:=by simp [World.setCell]
theorem ze {B:Nat} {w:World} (h:B≤w.heap.size) (o:Obj):B≤(w.alloc o).heap.size:=by
 simp;omega
def Sl (w:World) (k:IntKind) (a:Option Addr) (xs:List Int):Prop :=
 ∀ i x,xs[i]? = some x → ∃ b off,a=some ⟨b,off,none⟩∧w.cell? ⟨b,off+i,none⟩=some (.int k x)
theorem Sl.nil (w:World) (k:IntKind) (a:Option Addr):Sl w k a []:=fun i x h=>by simp at h
theorem Sl.below {w w':World} {k:IntKind} {a:Option Addr} {xs:List Int} (h:Sl w k a xs) (hb:Below w.heap.size w w'):Sl w' k a xs:=by
 intro i x hx;obtain ⟨b,off,rfl,hc⟩:=h i x hx;exact ⟨b,off,rfl,cell_later hb hc⟩
theorem Sl.drewN {w:World} {k:IntKind} {a:Option Addr} {xs:List Int} (h:Sl w k a xs) (n:Nat):Sl (w.drewN n) k a xs:=h
theorem Sl.drew {w:World} {k:IntKind} {a:Option Addr} {xs:List Int} (h:Sl w k a xs):Sl w.drew k a xs:=h
@[simp,go_sem] theorem Sl.drewN_iff {w:World} {k:IntKind} {a:Option Addr} {xs:List Int} (n:Nat):Sl (w.drewN n) k a xs ↔ Sl w k a xs:=Iff.rfl
@[simp,go_sem] theorem Sl.drew_iff {w:World} {k:IntKind} {a:Option Addr} {xs:List Int}:Sl w.drew k a xs ↔ Sl w k a xs:=Iff.rfl
def Own (w:World) (B:Nat) (e:TypeId) (k:IntKind) (v:Value) (xs:List Int):Prop:=w.ownsRow B e 1 v xs.length (xs.map (Value.int k))
theorem Own.nil (w:World) (B:Nat) (e:TypeId) (k:IntKind):Own w B e k (.slice none 0 0) []:=World.ownsRow_nil w B e 1
theorem Own.form {w:World} {B:Nat} {e:TypeId} {k:IntKind} {v:Value} {xs:List Int} (h:Own w B e k v xs) :
 ∃ a cap,v = .slice a xs.length cap∧Sl w k a xs:=by
 rcases h.2 with ⟨rfl,hn⟩ | ⟨g,cap,cur,rfl,hb,hg,hnc,hcm,hcs,ht⟩
 · have hx:xs=[]:=List.eq_nil_of_length_eq_zero hn;subst hx;exact ⟨none,0,rfl,Sl.nil _ _ _⟩
 · refine ⟨_,cap,rfl,fun i x hx=>⟨g,0,rfl,?_⟩⟩;have hi:i<xs.length:=(List.getElem?_eq_some_iff.1 hx).1;have hcell:w.cell? ⟨g,i,none⟩=cur[i]? := by simp [World.cell?,hg]
   rw [Nat.zero_add,hcell];have h1:(xs.map (Value.int k))[i]? = some (.int k x):=by rw [List.getElem?_map,hx];rfl
   rw [←ht,List.getElem?_take,if_pos (by omega)] at h1
   simpa using h1
theorem Own.sl {w:World} {B:Nat} {e:TypeId} {k:IntKind} {a:Option Addr} {n c:Nat} {xs:List Int} (h:Own w B e k (.slice a n c) xs):Sl w k a xs:=by
 obtain ⟨a',c',he,hs⟩:=h.form;injection he with h1 h2 h3;subst h1;exact hs
theorem Own.setBelow {w:World} {B:Nat} {e:TypeId} {k:IntKind} {v:Value} {xs:List Int} (h:Own w B e k v xs) {a:Addr} (ha:a.block<B) (u:Value):Own (w.setCell a u) B e k v xs:=ownsRow_setCell_below h ha u
theorem Own.lt {w:World} {B:Nat} {e:TypeId} {k:IntKind} {v:Value} {xs:List Int} (h:Own w B e k v xs) : ∀ g,v.ownBlock=some g→B≤g∧g<w.heap.size:=World.ownsRow.lt h
theorem Own.below {w w':World} {B:Nat} {e:TypeId} {k:IntKind} {v:Value} {xs:List Int} (h:Own w B e k v xs) (hb:Below w.heap.size w w'):Own w' B e k v xs :=
 World.ownsRow.kept (row:=none) h ⟨hb.os,hb.tape,hb.output,hb.size,fun i hi _=>hb.block i hi⟩ (by cases v.ownBlock <;> simp)
theorem Own.alloc {w:World} {B:Nat} {e:TypeId} {k:IntKind} {v:Value} {xs:List Int} (h:Own w B e k v xs) (o:Obj):Own (w.alloc o) B e k v xs:=World.ownsRow.alloc h o
theorem Own.base {w:World} {B B':Nat} {e:TypeId} {k:IntKind} {v:Value} {xs:List Int} (h:Own w B e k v xs) (hB:B'≤B):Own w B' e k v xs:=by
 refine ⟨h.1,h.2.imp id ?_⟩;rintro ⟨g,cap,cur,h1,h2,h3⟩;exact ⟨g,cap,cur,h1,Nat.le_trans hB h2,h3⟩
theorem Own.drew {w:World} {B:Nat} {e:TypeId} {k:IntKind} {v:Value} {xs:List Int} (h:Own w B e k v xs):Own w.drew B e k v xs:=h
theorem Own.drewN {w:World} {B:Nat} {e:TypeId} {k:IntKind} {v:Value} {xs:List Int} (h:Own w B e k v xs) (n:Nat):Own (w.drewN n) B e k v xs:=h
theorem Own.grown {w w':World} {B:Nat} {e:TypeId} {k:IntKind} {v:Value} {xs:List Int} (h:Own w B e k v xs) {row:Option Nat} (hg:w.grownBy w' row) (hne:v.ownBlock=none∨v.ownBlock ≠ row):Own w' B e k v xs :=
 World.ownsRow.kept h hg hne
theorem zAF {P:Program} {w:World} {ops:Array Oper} {rest:List Oper} {o:Oper} {a:Act} {Q:Exit→Act→World→Prop} (hgd:o.guard=none) (s x:Operand) (t:TypeId)
 (ho:o.op = .call { callee:=.builtin .append,args:=#[s,x],argTypes:=#[t,t] })
 (e:TypeId) (k:IntKind) (z:Value) (bytes:Nat) (hbz:bytes≤8) (ht:P.underlying t=some (.slice e))
 (hi:(P.info? e).map (fun i=>(i.zero,i.size,i.bytes))=some (some z,1,bytes)) (hzs:z.cells.size=1)
 (B:Nat) (v:Value) (xs:List Int) (hs:a.eval s=v) (hown:Own w B e k v xs) (n:Int)
 (ad:Addr) (c:Nat) (hx:a.eval x = .slice (some ad) 1 c) (hcell:w.cell? ad=some (.int k n)) (hlen:xs.length≤1000000000) (hbase:B≤w.heap.size)
 (h : ∀ v' w',Own w' B e k v' (xs++[n])→w.grownBy w' v.ownBlock→(v'.ownBlock=v.ownBlock∨v'.ownBlock=some w.heap.size)→wpList P ops Q rest (a.put o.dst v') w') :
 wpList P ops Q (o::rest) a w:=by
 obtain ⟨i0,hi0,hz0,hz1,hz2⟩:=info_parts hi;refine wpList_plain hgd fun K hK=>?_
 have hnews : ∀ j u,[Value.int k n][j]? = some u→w.cell? (ad.add j)=some u:=by
  intro j u hu
  match j with
  | 0=>simp at hu;subst hu;simpa [Addr.add] using hcell
  | j+1=>simp at hu
 obtain ⟨v',w',hr,h2,h3,_,h4⟩:=run_append_own_at (P:=P) w B t o.type e i0 z 1 bytes ht hi0 hz0 hz1 hz2 hzs (by omega) v xs.length _ hown ad 1 c [Value.int k n] rfl hnews (by simp [Value.oneCell'])
  (by simp only [maxLen];omega) (by have:(xs.length+1) * bytes≤(xs.length+1) * 8:=Nat.mul_le_mul_left _ hbz;omega) hbase
 unfold Oper.wp execOp;simp only [ho,resolve,invoke,builtin,Sem.run_bind,Sem.run_pure,Result.andThen_ok,List.map_toArray,List.map_cons,List.map_nil,hs,hx,hr];exact hK _ _ (h v' w' (by unfold Own;simpa using h2) h3 h4)
theorem Own.ofRow {w:World} {B b:Nat} {e:TypeId} {k:IntKind} {n:Nat} {F:Nat→Int} {xs:List Int} (h:w.rowIs b e n (fun j=>.int k (F j))) (hb:B≤b) (hn:n≤maxLen) (hx:xs=(List.range n).map F) :
 Own w B e k (.slice (some ⟨b,0,none⟩) n n) xs:=by
 subst hx;obtain ⟨c,hc,hcs,hg⟩:=h;refine ⟨by simp,.inr ⟨b,n,c,by simp,hb,hc,by simp,hn,by simp [hcs],?_⟩⟩
 apply List.ext_getElem?;intro i;simp only [List.length_map,List.length_range,Nat.mul_one,List.getElem?_take,List.getElem?_map,List.map_map];by_cases hi:i<n
 · have:=hg i hi;simp [hi];exact this
 · simp [hi]
theorem Own.at {w:World} {B:Nat} {e:TypeId} {k:IntKind} {v:Value} {xs:List Int} (h:Own w B e k v xs) (hne:0<xs.length) :
 ∃ g cap, v = .slice (some ⟨g, 0, none⟩) xs.length cap ∧ B ≤ g ∧ g < w.heap.size ∧ (∀ i x, xs[i]? = some x → w.cell? ⟨g, i, none⟩ = some (.int k x)) ∧ (∀ i, w.frozen? ⟨g, i, none⟩ = false) ∧
   ∀ i x,Own (w.setCell ⟨g,i,none⟩ (.int k x)) B e k (.slice (some ⟨g,0,none⟩) xs.length cap) (xs.set i x):=by
 obtain ⟨a,cap,rfl,hsl⟩:=h.form;rcases h.2 with ⟨hv,hn⟩ | ⟨g,cap',cur,hv,hb,hg,hrest⟩
 · omega
 · injection hv with h1 h2 h3;subst h1 h3;refine ⟨g,cap,rfl,hb,(Array.getElem?_eq_some_iff.1 hg).1,fun i x hx=>?_,fun i=>World.ownsRow.frozenAt h i,fun i x=>?_⟩
   · obtain ⟨b,off,hbo,hc⟩:=hsl i x hx;simp only [Option.some.injEq,Addr.mk.injEq] at hbo;obtain ⟨rfl,rfl,_⟩:=hbo;simpa using hc
   · have:=World.ownsRow.stored h i (.int k x);unfold Own;rw [List.length_set,List.map_set];exact this.1
theorem Own.lit (w:World) (B:Nat) (e:TypeId) (k:IntKind) (cs:Array Value) (xs:List Int) (n:Nat) (hb:B≤w.heap.size) (hn:n≤maxLen) (hx:xs.length=n) (h:cs=(xs.map (Value.int k)).toArray) :
 Own (w.alloc (.cells cs e)) B e k (.slice (some ⟨w.heap.size,0,none⟩) n n) xs:=by
 subst h hx;have:=World.ownsRow_lit (e:=e) (size:=1) w (xs.map (Value.int k)).toArray xs.length hb hn (by simp)
 simpa [Own] using this
theorem zAG {P:Program} {w:World} {ops:Array Oper} {rest:List Oper} {o:Oper} {a:Act} {Q:Exit→Act→World→Prop} (hgd:o.guard=none) (s x:Operand) (t:TypeId)
 (ho:o.op = .call { callee:=.builtin .append,args:=#[s,x],argTypes:=#[t,t] })
 (e:TypeId) (k:IntKind) (z:Value) (bytes:Nat) (hbz:bytes≤8) (ht:P.underlying t=some (.slice e))
 (hi:(P.info? e).map (fun i=>(i.zero,i.size,i.bytes))=some (some z,1,bytes)) (hzs:z.cells.size=1)
 (B:Nat) (v:Value) (xs:List Int) (hs:a.eval s=v) (hown:Own w B e k v xs) (ys:List Int)
 (A:Option Addr) (m c:Nat) (hx:a.eval x = .slice A m c) (hm:m=ys.length) (hys:Sl w k A ys) (hlen:xs.length+ys.length≤1000000000) (hbase:B≤w.heap.size)
 (h : ∀ v' w',Own w' B e k v' (xs++ys)→w.grownBy w' v.ownBlock→(v'.ownBlock=v.ownBlock∨v'.ownBlock=some w.heap.size)→wpList P ops Q rest (a.put o.dst v') w') :
 wpList P ops Q (o::rest) a w:=by
 subst hm;obtain ⟨i0,hi0,hz0,hz1,hz2⟩:=info_parts hi;refine wpList_plain hgd fun K hK=>?_
 have key : ∃ v' w',(Builtin.append_ #[t,t] o.type #[v,.slice A ys.length c]).run P w = .ok v' w'∧Own w' B e k v' (xs++ys)∧w.grownBy w' v.ownBlock∧(v'.ownBlock=v.ownBlock∨v'.ownBlock=some w.heap.size):=by
  cases A with
  | none =>
    have hnil:ys=[]:=by
     cases ys with
     | nil=>rfl
     | cons y l=>obtain ⟨b,off,h0,_⟩:=hys 0 y rfl;cases h0
    subst hnil;refine ⟨v,w,?_,by simpa using hown,World.grownBy.refl w _,.inl rfl⟩
    rcases hown.2 with ⟨rfl,hn⟩ | ⟨g,cap,cur,rfl,_,_,hnc,_⟩
    · simp [Builtin.append_,run_underlying ht,sizeOf,typeInfo,hi0,Builtin.lenOf,Builtin.firstCells]
    · simp [Builtin.append_,run_underlying ht,sizeOf,typeInfo,hi0,Builtin.lenOf,Builtin.firstCells,hnc,storeCells]
  | some ad =>
    have hnews : ∀ j u,(ys.map (Value.int k))[j]? = some u→w.cell? (ad.add j)=some u:=by
     intro j u hu;rw [List.getElem?_map] at hu;cases hy:ys[j]? with
     | none=>rw [hy] at hu;cases hu
     | some y =>
       rw [hy] at hu;obtain ⟨b,off,h0,hc⟩:=hys j y hy;injection h0 with h0;subst h0;injection hu with hu;subst hu;have:(⟨b,off,none⟩:Addr).add j=⟨b,off+j,none⟩:=by unfold Addr.add;split <;> simp_all
       rw [this];exact hc
    obtain ⟨v',w',hr,h2,h3,_,h4⟩:=run_append_own_at (P:=P) w B t o.type e i0 z 1 bytes ht hi0 hz0 hz1 hz2 hzs (by omega) v xs.length _ hown ad ys.length c (ys.map (Value.int k)) (by simp) hnews (ints_oneCell k ys)
     (by simp only [maxLen];omega) (by have:(xs.length+ys.length) * bytes≤(xs.length+ys.length) * 8:=Nat.mul_le_mul_left _ hbz;omega) hbase
    exact ⟨v',w',hr,by unfold Own;simpa using h2,h3,h4⟩
 obtain ⟨v',w',hr,h2,h3,h4⟩:=key;unfold Oper.wp execOp;simp only [ho,resolve,invoke,builtin,Sem.run_bind,Sem.run_pure,Result.andThen_ok,List.map_toArray,List.map_cons,List.map_nil,hs,hx,hr];exact hK _ _ (h v' w' h2 h3 h4)
theorem zK {P:Program} {w:World} (src e dst:TypeId) (hs:P.underlying src=some (.slice e)) (he:P.underlying e=some (.int .u8)) (hd:P.underlying dst=some .string) {a:Option Addr} {xs:List Int} (h:Sl w .u8 a xs) (n cap:Nat) (hn:n=xs.length) :
 (convert src dst (.slice a n cap)).run P w = .ok (.string (strOfNums xs)) w:=by
 subst hn;cases xs with
 | nil =>
   cases a with
   | none=>exact run_convert_bytes_nil w src e hs he _ _ dst hd
   | some a =>
     have:=run_convert_bytes_string (P:=P) w src dst e (some a) 0 cap hs he hd;simp only [List.length_nil];rw [this,run_bytesToString w a 0 cap [] (by simp [loadCells,loadCellsFrom])]
     rfl
 | cons x l =>
   obtain ⟨b,off,rfl,h0⟩:=h 0 x rfl;refine run_convert_bytes_arg w src e hs he b off _ cap (x::l) rfl (fun i hi=>?_) dst hd;obtain ⟨b',off',e',hc⟩:=h i _ (List.getElem?_eq_getElem hi);simp only [Option.some.injEq,Addr.mk.injEq] at e';obtain ⟨rfl,rfl,_⟩:=e';rw [hc];simp [List.getD,List.getElem?_eq_getElem hi]
def Bk (w:World) (g:Nat) (cs:Array Value) (t:TypeId):Prop:=w.heap[g]? = some (.cells cs t (0,0))
theorem zD (w:World) (o:Obj) (n:Nat) (h:n=w.heap.size):(w.alloc o).heap[n]? = some o:=by subst h;exact heap_alloc_new w o
theorem zE {w:World} {o x:Obj} {n:Nat} (h:w.heap[n]? = some x):(w.alloc o).heap[n]? = some x:=by
 rw [Below.heap_alloc w o n (Array.getElem?_eq_some_iff.1 h).1];exact h
theorem Bk.lt {w:World} {g:Nat} {cs:Array Value} {t:TypeId} (h:Bk w g cs t):g<w.heap.size:=(Array.getElem?_eq_some_iff.1 h).1
theorem Bk.cell {w:World} {g:Nat} {cs:Array Value} {t:TypeId} (h:Bk w g cs t) (j:Nat) {v:Value} (hv:cs[j]? = some v):w.cell? ⟨g,j,none⟩=some v:=by
 rw [cell_of_row w g j cs t (0,0) h];exact hv
theorem Bk.frozen {w:World} {g:Nat} {cs:Array Value} {t:TypeId} (h:Bk w g cs t) (j:Nat):w.frozen? ⟨g,j,none⟩=false:=frozen_of_row w g j cs t h
theorem Bk.later {w w':World} {g:Nat} {cs:Array Value} {t:TypeId} (h:Bk w g cs t) (hb:Below w.heap.size w w'):Bk w' g cs t:=by
 unfold Bk;rw [hb.block g h.lt];exact h
theorem Bk.new (w:World) (cs:Array Value) (t:TypeId):Bk (w.alloc (.cells cs t)) w.heap.size cs t:=heap_alloc_new w _
theorem Bk.alloc {w:World} {g:Nat} {cs:Array Value} {t:TypeId} (h:Bk w g cs t) (o:Obj):Bk (w.alloc o) g cs t:=zE h
theorem Bk.drew {w:World} {g:Nat} {cs:Array Value} {t:TypeId} (h:Bk w g cs t):Bk w.drew g cs t:=h
theorem Bk.set {w:World} {g:Nat} {cs:Array Value} {t:TypeId} (h:Bk w g cs t) (j:Nat) (v:Value):Bk (w.setCell ⟨g,j,none⟩ v) g (cs.setIfInBounds j v) t:=heap_setCell_same w g j cs t v h
theorem Bk.other {w:World} {g:Nat} {cs:Array Value} {t:TypeId} (h:Bk w g cs t) (a:Addr) (v:Value) (hne:g ≠ a.block):Bk (w.setCell a v) g cs t:=by
 unfold Bk;rw [heap_setCell_other w a g v hne];exact h
theorem Bk.put3 {w:World} {g:Nat} {x y z:Value} {t:TypeId} (h:Bk w g #[x,y,z] t) (a b c:Value):Bk (((w.setCell ⟨g,0,none⟩ a).setCell ⟨g,1,none⟩ b).setCell ⟨g,2,none⟩ c) g #[a,b,c] t:=by
 simpa using ((h.set 0 a).set 1 b).set 2 c
theorem Bk.put6 {w:World} {g:Nat} {x0 x1 x2 x3 x4 x5:Value} {t:TypeId} (h:Bk w g #[x0,x1,x2,x3,x4,x5] t) (a b c d e f:Value) :
 Bk ((((((w.setCell ⟨g,0,none⟩ a).setCell ⟨g,1,none⟩ b).setCell ⟨g,2,none⟩ c).setCell ⟨g,3,none⟩ d).setCell ⟨g,4,none⟩ e).setCell ⟨g,5,none⟩ f) g #[a,b,c,d,e,f] t:=by
 simpa using (((((h.set 0 a).set 1 b).set 2 c).set 3 d).set 4 e).set 5 f
theorem Bk.put7 {w:World} {g:Nat} {x0 x1 x2 x3 x4 x5 x6:Value} {t:TypeId} (h:Bk w g #[x0,x1,x2,x3,x4,x5,x6] t) (a b c d e f i:Value) :
 Bk (((((((w.setCell ⟨g,0,none⟩ a).setCell ⟨g,1,none⟩ b).setCell ⟨g,2,none⟩ c).setCell ⟨g,3,none⟩ d).setCell ⟨g,4,none⟩ e).setCell ⟨g,5,none⟩ f).setCell ⟨g,6,none⟩ i) g #[a,b,c,d,e,f,i] t:=by
 simpa using ((((((h.set 0 a).set 1 b).set 2 c).set 3 d).set 4 e).set 5 f).set 6 i
theorem zBh {B:Nat} {a w:World} (h:Below B a w) {g:Nat} (hg:B≤g) (x y z:Value):Below B a (((w.setCell ⟨g,0,none⟩ x).setCell ⟨g,1,none⟩ y).setCell ⟨g,2,none⟩ z) :=
 ((h.setCell hg _).setCell hg _).setCell hg _
theorem zBi {B:Nat} {a w:World} (h:Below B a w) {g:Nat} (hg:B≤g) (x y z x' y' z':Value) :
 Below B a ((((((w.setCell ⟨g,0,none⟩ x).setCell ⟨g,1,none⟩ y).setCell ⟨g,2,none⟩ z).setCell ⟨g,3,none⟩ x').setCell ⟨g,4,none⟩ y').setCell ⟨g,5,none⟩ z') :=
 (((((h.setCell hg _).setCell hg _).setCell hg _).setCell hg _).setCell hg _).setCell hg _
theorem zBj {B:Nat} {a w:World} (h:Below B a w) {g:Nat} (hg:B≤g) (x y z x' y' z' s:Value) :
 Below B a (((((((w.setCell ⟨g,0,none⟩ x).setCell ⟨g,1,none⟩ y).setCell ⟨g,2,none⟩ z).setCell ⟨g,3,none⟩ x').setCell ⟨g,4,none⟩ y').setCell ⟨g,5,none⟩ z').setCell ⟨g,6,none⟩ s) :=
 ((((((h.setCell hg _).setCell hg _).setCell hg _).setCell hg _).setCell hg _).setCell hg _).setCell hg _
end
section
open Go.RowKit Go.Maps
open Go.WideMaps (KeyLaw)
theorem zeroI (w:World):(zeroValue 3).run Tryz.prog w = .ok (.int .i64 0) w:=by kernel_rfl
theorem zIN:laidOutB Tryz.prog=true:=by kernel_rfl
theorem zIO:KeyLaw Tryz.prog 111:=deep_law_laid zIN (m:=3) (by omega) (of_decide_eq_true (by kernel_rfl)) (by kernel_rfl) (by kernel_rfl)
theorem zIM:Keyed Tryz.prog 111:=Keyed.of_law zIO
theorem zI9 {P:Program} {k:TypeId} {R:Value→Option (DataW Unit × List MemPlace)} {w:World} {b n:Nat} {D:DataW Unit} (h:w.ownsMap P k R b n D):w.ownsMap P k R b (size D) D:=by
 obtain ⟨es,clock,hb,F,hs,rfl⟩:=h;exact ⟨es,clock,hb,F,by rw [size_eq,length_sorted];simp,rfl⟩
def MapFn (w:World) (b n:Nat) (f:Value→Option Int):Prop :=
 ∃ D : DataW Unit, w.ownsMap Tryz.prog 111 (plainElem Tryz.prog 3) b n D ∧ size D = n ∧
   ∀ key kl,keyOf Tryz.prog 111 key=some kl→(f key=none→has D kl=false) ∧ ∀ i,f key=some i→has D kl=true∧D.atKey kl (.lit (.int .i64 0)) = .lit (.int .i64 i)
theorem MapFn.kept {w w':World} {b n:Nat} {f:Value→Option Int} {row:Option Nat} (h:MapFn w b n f) (hg:w.grownBy w' row) (hne:some b ≠ row):MapFn w' b n f:=by
 obtain ⟨D,h1,hs,h2⟩:=h;exact ⟨D,h1.kept hg hne,hs,h2⟩
theorem MapFn.lt {w:World} {b n:Nat} {f:Value→Option Int} (h:MapFn w b n f):b<w.heap.size:=by
 obtain ⟨D,h1,_⟩:=h;exact h1.lt
theorem MapFn.made (w:World):MapFn (w.alloc (.map #[] 0)) w.heap.size 0 (fun _=>none) :=
 ⟨_,World.ownsMap_made w _ _ _,rfl,fun key kl hk=>⟨fun _=>rfl,fun i h=>by cases h⟩⟩
theorem MapFn.look {w:World} {b n:Nat} {f:Value→Option Int} (h:MapFn w b n f) {key:Value} {kl:Lit} (hkey:keyOf Tryz.prog 111 key=some kl) :
 (∀ i,f key=some i→(Instr.lookup 100 (.map (some b)) key true).run Tryz.prog w = .ok (.tuple #[.int .i64 i,.bool true]) w) ∧
 (f key=none→(Instr.lookup 100 (.map (some b)) key true).run Tryz.prog w = .ok (.tuple #[.int .i64 0,.bool false]) w):=by
 obtain ⟨D,h1,hs,h2⟩:=h;obtain ⟨v,ps,hrun,hv⟩:=h1.look_ok zIM Tryz.underlying100 (zeroI w) (plainElem_int Tryz.underlying3 (by decide)) hkey
 obtain ⟨c,rfl,hc,hwc⟩:=plainElem_int_inv Tryz.underlying3 hv;have hat:=congrArg Prod.fst hc;obtain ⟨k1,k2⟩:=h2 key kl hkey;refine ⟨fun i hi=>?_,fun hn=>?_⟩
 · obtain ⟨e1,e2⟩:=k2 i hi;rw [e1] at hrun;simp only at hat
   rw [e2] at hat
   injection hat with hat;injection hat with _ hat
   subst hat;exact hrun
 · have hh:=k1 hn;rw [hh] at hrun;simp only at hat
   rw [atKey_of_not_has hh] at hat
   injection hat with hat;injection hat with _ hat
   subst hat;exact hrun
open Classical in
theorem MapFn.put {w:World} {b n:Nat} {f:Value→Option Int} (h:MapFn w b n f) (hn:n<maxLen) {key:Value} {kl:Lit} (hkey:keyOf Tryz.prog 111 key=some kl) (hf:f key=none) (i:Int) (hi:(Lit.int .i64 i).wf=true) :
 ∃ w',(Instr.mapUpdate 100 (.map (some b)) key (.int .i64 i)).run Tryz.prog w = .ok () w'∧MapFn w' b (n+1) (fun v=>if v=key then some i else f v)∧w.grownBy w' (some b):=by
 obtain ⟨D,h1,hs,h2⟩:=h;have hm:=h1.isMap;obtain ⟨w',hrun,h3,h4⟩:=h1.store zIM Tryz.underlying100 hn hkey (plainElem_int Tryz.underlying3 hi)
 have hsz:size (D.put kl (.lit (.int .i64 i)))=n+1:=by
  rw [size_put (h1.tidy zIM),(h2 key kl hkey).1 hf,hs];rfl
 refine ⟨w',hrun,⟨_,h3,hsz,fun key' kl' hk'=>?_⟩,h4.grown⟩;by_cases e:key'=key
 · subst e;obtain rfl:kl'=kl:=Option.some.inj (hk'.symm.trans hkey);simp only [if_true];refine ⟨fun h=>by simp at h,fun j hj=>?_⟩
   obtain rfl:=Option.some.inj hj;exact ⟨has_put_same hm (zIM.key hkey) _,atKey_put_same hm (zIM.key hkey) _ _⟩
 · have hne:kl' ≠ kl:=fun e'=>e (zIM.inj hk' (e' ▸ hkey));simp only [if_neg e];obtain ⟨k1,k2⟩:=h2 key' kl' hk';exact ⟨fun h=>by rw [has_put_other hne];exact k1 h,fun j hj=>by rw [has_put_other hne,atKey_put_other hne];exact k2 j hj⟩
open Classical in
theorem MapFn.drop {w:World} {b n:Nat} {f:Value→Option Int} (h:MapFn w b n f) {key:Value} {kl:Lit} (hkey:keyOf Tryz.prog 111 key=some kl) {i:Int} (hf:f key=some i) (ty:TypeId) :
 ∃ w',(Builtin.delete_ #[100,111] ty #[.map (some b),key]).run Tryz.prog w = .ok (.tuple #[]) w'∧MapFn w' b (n - 1) (fun v=>if v=key then none else f v)∧w.grownBy w' (some b):=by
 obtain ⟨D,h1,hs,h2⟩:=h;obtain ⟨w',hrun,h3,h4⟩:=h1.drop zIM Tryz.underlying100 hkey ty
 have hsz:size (D.del kl)=n - 1:=by
  have:=size_del (k:=kl) (h1.tidy zIM);rw [((h2 key kl hkey).2 i hf).1,hs] at this;simp at this;omega
 refine ⟨w',hrun,⟨_,by have:=zI9 h3;rwa [hsz] at this,hsz,fun key' kl' hk'=>?_⟩,h4.grown⟩
 by_cases e:key'=key
 · subst e;obtain rfl:kl'=kl:=Option.some.inj (hk'.symm.trans hkey);simp only [if_true];exact ⟨fun _=>has_del_same,fun j hj=>by cases hj⟩
 · have hne:kl' ≠ kl:=fun e'=>e (zIM.inj hk' (e' ▸ hkey));simp only [if_neg e];obtain ⟨k1,k2⟩:=h2 key' kl' hk';exact ⟨fun h=>by rw [has_del_other hne];exact k1 h,fun j hj=>by rw [has_del_other hne,atKey_del_other hne];exact k2 j hj⟩
theorem MapFn.congr {w:World} {b n:Nat} {f f':Value→Option Int} (h:MapFn w b n f) (he : ∀ key kl,keyOf Tryz.prog 111 key=some kl→f key=f' key):MapFn w b n f':=by
 obtain ⟨D,h1,hs,h2⟩:=h;refine ⟨D,h1,hs,fun key kl hk=>?_⟩;rw [←he key kl hk];exact h2 key kl hk
end
section
open Go.RowKit Go.Maps
def zII (k c:Int) (s:ByteArray) (d x0 x1 x2 x3 x4 x5 x6 x7:Int):Value :=
 .agg #[.int .i64 k,.int .i64 c,.string s,.int .i64 d,.int .i64 x0,.int .i64 x1,.int .i64 x2,.int .i64 x3,.int .i64 x4,.int .i64 x5,.int .i64 x6,.int .i64 x7]
theorem zIJ : Tryz.prog.cellsOf 111=12:=by kernel_rfl
theorem zBO : Tryz.prog.cellsOf 54=8:=by kernel_rfl
theorem zFj : Tryz.prog.cellsOf 3=1:=by kernel_rfl
theorem strCells : Tryz.prog.cellsOf 9=1:=by kernel_rfl
theorem zIL : Tryz.prog.keyType 111=true:=by kernel_rfl
theorem zNl : ∃ m,Tryz.prog.types.size+1=m+3:=⟨Tryz.prog.types.size - 2,by have:2 ≤ Tryz.prog.types.size:=of_decide_eq_true (by kernel_rfl);omega⟩
theorem zFz (k c:Int) (s:ByteArray) (d x0 x1 x2 x3 x4 x5 x6 x7:Int) (hs:s.size≤maxLen)
 (h : ∀ y∈[k,c,d,x0,x1,x2,x3,x4,x5,x6,x7],(Lit.int .i64 y).wf=true) : ∃ kl,keyOf Tryz.prog 111 (zII k c s d x0 x1 x2 x3 x4 x5 x6 x7)=some kl:=by
 simp only [List.mem_cons,List.not_mem_nil,or_false,forall_eq_or_imp,forall_eq] at h;obtain ⟨h1,h2,h3,g0,g1,g2,g3,g4,g5,g6,g7⟩:=h;obtain ⟨m,hm⟩:=zNl;unfold keyOf zII;rw [Tryz.underlying111,hm];simp [zIL,Value.formed,Tryz.underlying111,zIJ,Program.keyLits,Value.cells,Tryz.underlying54,Tryz.underlying3,Tryz.underlying9,zFj,strCells,zBO,hs,h1,h2,h3,g0,g1,g2,g3,g4,g5,g6,g7,List.range_succ,List.mapM_cons,List.mapM_nil]
end
section
structure Pt where
 x:Int
 y:Int
 z:Int
deriving DecidableEq
structure Box where
 lo:Pt
 hi:Pt
deriving DecidableEq
def Pt.zero:Pt:=⟨0,0,0⟩
def Box.zero:Box:=⟨Pt.zero,Pt.zero⟩
def Pt.add (p q:Pt):Pt:=⟨p.x+q.x,p.y+q.y,p.z+q.z⟩
def Pt.sub (p q:Pt):Pt:=⟨p.x - q.x,p.y - q.y,p.z - q.z⟩
def inB (p:Pt) (b:Box):Bool:=decide (b.lo.x≤p.x∧p.x<b.hi.x∧b.lo.y≤p.y∧p.y<b.hi.y∧b.lo.z≤p.z∧p.z<b.hi.z)
def zN (b:Box):Bool := !inB b.lo b
def zv (b:Box):Pt:=if zN b=true then Pt.zero else b.hi.sub b.lo
def zAC (b:Box):Int:=(zv b).x * (zv b).y * (zv b).z
def zL (n:Int):Box:=⟨Pt.zero,⟨n,n,n⟩⟩
def zFn (a b:Box):Box:=⟨⟨max a.lo.x b.lo.x,max a.lo.y b.lo.y,max a.lo.z b.lo.z⟩,⟨min a.hi.x b.hi.x,min a.hi.y b.hi.y,min a.hi.z b.hi.z⟩⟩
def zf (a b:Box):Box:=if zN (zFn a b)=true then Box.zero else zFn a b
def zJ (a b:Box):Bool:=zN b || decide (zf a b=b)
def zY (b:Box) (p:Pt):Int:=if inB p b=true then ((p.z - b.lo.z) * (zv b).y+(p.y - b.lo.y)) * (zv b).x+(p.x - b.lo.x) else -1
def atB (b:Box) (i:Int):Pt:=if 0≤i∧i<zAC b then ⟨b.lo.x+i % (zv b).x,b.lo.y+i / (zv b).x % (zv b).y,b.lo.z+i / (zv b).x / (zv b).y⟩ else Pt.zero
def okC (n:Int):Bool:=decide (-1048575≤n∧n≤1048575)
def okP (p:Pt):Bool:=okC p.x && okC p.y && okC p.z
def okB (b:Box):Bool:=okP b.lo && okP b.hi
structure Small (b:Box) (m:Int):Prop where
 lx : -m≤b.lo.x
 ly : -m≤b.lo.y
 lz : -m≤b.lo.z
 hx:b.hi.x≤m
 hy:b.hi.y≤m
 hz:b.hi.z≤m
theorem zX {p:Pt} {b:Box}:inB p b=true ↔ b.lo.x≤p.x∧p.x<b.hi.x∧b.lo.y≤p.y∧p.y<b.hi.y∧b.lo.z≤p.z∧p.z<b.hi.z:=by simp [inB]
theorem zO {b:Box}:zN b=false ↔ b.lo.x<b.hi.x∧b.lo.y<b.hi.y∧b.lo.z<b.hi.z:=by simp [zN,inB]
theorem zDs {b:Box}:zN b=true ↔ ¬(b.lo.x<b.hi.x∧b.lo.y<b.hi.y∧b.lo.z<b.hi.z):=by
 rw [←zO];simp
theorem zIm {p:Pt}:okP p=true ↔ (-1048575≤p.x∧p.x≤1048575)∧(-1048575≤p.y∧p.y≤1048575)∧(-1048575≤p.z∧p.z≤1048575):=by simp [okP,okC,and_assoc]
theorem zk {b:Box} (h:okB b=true):Small b 1048575:=by
 simp only [okB,Bool.and_eq_true,zIm] at h;exact ⟨by omega,by omega,by omega,by omega,by omega,by omega⟩
theorem zL9 (b:Box) {m:Int} (hm:0≤m) (h:Small b m):(0≤(zv b).x∧(zv b).x≤2 * m)∧(0≤(zv b).y∧(zv b).y≤2 * m)∧(0≤(zv b).z∧(zv b).z≤2 * m):=by
 unfold zv;obtain ⟨h1,h2,h3,h4,h5,h6⟩:=h;split
 · simp [Pt.zero];omega
 · rename_i he;have:=zO.1 (by simpa using he)
   simp only [Pt.sub];omega
theorem zH9 {a b m n:Int} (ha:0≤a) (hb:0≤b) (h:a≤m) (h':b≤n):0≤a * b∧a * b≤m * n :=
 ⟨Int.mul_nonneg ha hb,Int.mul_le_mul h h' hb (Int.le_trans ha h)⟩
theorem zJs (b:Box) {m:Int} (hm:0≤m) (h:Small b m):(0≤(zv b).x * (zv b).y∧(zv b).x * (zv b).y≤2 * m * (2 * m))∧0≤zAC b∧zAC b≤2 * m * (2 * m) * (2 * m):=by
 obtain ⟨⟨x0,x1⟩,⟨y0,y1⟩,z0,z1⟩:=zL9 b hm h;have h1:=zH9 x0 y0 x1 y1;exact ⟨h1,zH9 h1.1 z0 h1.2 z1⟩
theorem zNy {b:Box} (h:zN b=true):zAC b=0:=by simp [zAC,zv,h,Pt.zero]
theorem zw {b:Box} (h:zN b=false):zv b=b.hi.sub b.lo:=by simp [zv,h]
theorem zFQ {p:Pt} {b:Box} (h:inB p b=true):zN b=false:=by
 have:=zX.1 h;rw [zO];omega
theorem zZ {p:Pt} {b:Box} (h:inB p b=true):0≤zY b p∧zY b p<zAC b:=by
 have he:=zFQ h;have h':=zX.1 h;unfold zY zAC;rw [if_pos h,zw he];simp only [Pt.sub];generalize hx:p.x - b.lo.x=dx;generalize hy:p.y - b.lo.y=dy;generalize hz:p.z - b.lo.z=dz;generalize hsx:b.hi.x - b.lo.x=sx;generalize hsy:b.hi.y - b.lo.y=sy;generalize hsz:b.hi.z - b.lo.z=sz;have a1:0≤dx:=by omega
 have a2:dx+1≤sx:=by omega
 have a3:0≤dy:=by omega
 have a4:dy+1≤sy:=by omega
 have a5:0≤dz:=by omega
 have a6:dz+1≤sz:=by omega
 have b1:0≤dz * sy:=Int.mul_nonneg a5 (by omega)
 have b2:dz * sy+sy≤sz * sy:=by
  have:=Int.mul_le_mul_of_nonneg_right a6 (show 0≤sy by omega)
  rw [Int.add_mul,Int.one_mul] at this;exact this
 have b3:0≤(dz * sy+dy) * sx:=Int.mul_nonneg (by omega) (by omega)
 have b4:(dz * sy+dy+1) * sx≤sz * sy * sx:=Int.mul_le_mul_of_nonneg_right (by omega) (by omega)
 rw [Int.add_mul,Int.one_mul] at b4;have b5:sx * sy * sz=sz * sy * sx:=by rw [Int.mul_comm sx sy,Int.mul_comm (sy * sx) sz,Int.mul_assoc]
 omega
theorem zBQ {b:Box} {i:Int} (h0:0≤i) (h1:i<zAC b):inB (atB b i) b=true∧zY b (atB b i)=i:=by
 have he:zN b=false:=by
  cases h:zN b with
  | false=>rfl
  | true=>rw [zNy h] at h1;omega
 have h':=zO.1 he
 have hin:inB (atB b i) b=true:=by
  rw [zX];unfold atB;rw [if_pos ⟨h0,h1⟩];unfold zAC at h1;rw [zw he] at h1 ⊢;simp only [Pt.sub] at h1 ⊢;generalize hsx:b.hi.x - b.lo.x=sx at *;generalize hsy:b.hi.y - b.lo.y=sy at *;generalize hsz:b.hi.z - b.lo.z=sz at *;have p1:0<sx:=by omega
  have p2:0<sy:=by omega
  have m1:=Int.emod_nonneg i (show sx ≠ 0 by omega)
  have m2:=Int.emod_lt_of_pos i p1;have m3:=Int.emod_nonneg (i / sx) (show sy ≠ 0 by omega)
  have m4:=Int.emod_lt_of_pos (i / sx) p2;have d1:0≤i / sx:=Int.ediv_nonneg h0 (by omega)
  have d2:0≤i / sx / sy:=Int.ediv_nonneg d1 (by omega)
  have d3:i / sx / sy<sz:=by
   rw [Int.ediv_lt_iff_lt_mul p2,Int.ediv_lt_iff_lt_mul p1,Int.mul_comm sz sy,Int.mul_assoc,Int.mul_comm sz sx,←Int.mul_assoc,Int.mul_comm sy sx];exact h1
  omega
 refine ⟨hin,?_⟩;unfold zY;rw [if_pos hin];unfold atB;rw [if_pos ⟨h0,h1⟩,zw he];simp only [Pt.sub];generalize hsx:b.hi.x - b.lo.x=sx;generalize hsy:b.hi.y - b.lo.y=sy;have e1:=Int.emod_add_mul_ediv (i / sx) sy;have e2:=Int.emod_add_mul_ediv i sx;rw [show b.lo.z+i / sx / sy - b.lo.z=i / sx / sy by omega,show b.lo.y+i / sx % sy - b.lo.y=i / sx % sy by omega,show b.lo.x+i % sx - b.lo.x=i % sx by omega]
 rw [Int.mul_comm (i / sx / sy) sy,Int.add_comm (sy * _),e1,Int.mul_comm (i / sx) sx];omega
theorem zBR {b:Box} (h:zN b=false):1≤zAC b:=by
 have h':=zO.1 h;unfold zAC;rw [zw h];simp only [Pt.sub];have h1:1≤(b.hi.x - b.lo.x) * (b.hi.y - b.lo.y):=Int.mul_pos (by omega) (by omega)
 exact Int.mul_pos (by omega) (by omega)
end
section
open Go.RowKit
theorem Bk.c2 {w:World} {g:Nat} {x0 x1:Value} {r:List Value} {t:TypeId} (h:Bk w g (x0::x1::r).toArray t):w.cell? ⟨g,0,none⟩=some x0∧w.cell? ⟨g,1,none⟩=some x1 :=
 ⟨h.cell 0 rfl,h.cell 1 rfl⟩
theorem Bk.f2 {w:World} {g:Nat} {cs:Array Value} {t:TypeId} (h:Bk w g cs t):w.frozen? ⟨g,0,none⟩=false∧w.frozen? ⟨g,1,none⟩=false :=
 ⟨h.frozen 0,h.frozen 1⟩
theorem Bk.c3 {w:World} {g:Nat} {x0 x1 x2:Value} {r:List Value} {t:TypeId} (h:Bk w g (x0::x1::x2::r).toArray t):w.cell? ⟨g,0,none⟩=some x0∧w.cell? ⟨g,1,none⟩=some x1∧w.cell? ⟨g,2,none⟩=some x2 :=
 ⟨h.cell 0 rfl,h.cell 1 rfl,h.cell 2 rfl⟩
theorem Bk.f3 {w:World} {g:Nat} {cs:Array Value} {t:TypeId} (h:Bk w g cs t):w.frozen? ⟨g,0,none⟩=false∧w.frozen? ⟨g,1,none⟩=false∧w.frozen? ⟨g,2,none⟩=false :=
 ⟨h.frozen 0,h.frozen 1,h.frozen 2⟩
theorem Bk.c4 {w:World} {g:Nat} {x0 x1 x2 x3:Value} {r:List Value} {t:TypeId} (h:Bk w g (x0::x1::x2::x3::r).toArray t):w.cell? ⟨g,0,none⟩=some x0∧w.cell? ⟨g,1,none⟩=some x1∧w.cell? ⟨g,2,none⟩=some x2∧w.cell? ⟨g,3,none⟩=some x3 :=
 ⟨h.cell 0 rfl,h.cell 1 rfl,h.cell 2 rfl,h.cell 3 rfl⟩
theorem Bk.f4 {w:World} {g:Nat} {cs:Array Value} {t:TypeId} (h:Bk w g cs t):w.frozen? ⟨g,0,none⟩=false∧w.frozen? ⟨g,1,none⟩=false∧w.frozen? ⟨g,2,none⟩=false∧w.frozen? ⟨g,3,none⟩=false :=
 ⟨h.frozen 0,h.frozen 1,h.frozen 2,h.frozen 3⟩
theorem Bk.c5 {w:World} {g:Nat} {x0 x1 x2 x3 x4:Value} {r:List Value} {t:TypeId} (h:Bk w g (x0::x1::x2::x3::x4::r).toArray t):w.cell? ⟨g,0,none⟩=some x0∧w.cell? ⟨g,1,none⟩=some x1∧w.cell? ⟨g,2,none⟩=some x2∧w.cell? ⟨g,3,none⟩=some x3∧w.cell? ⟨g,4,none⟩=some x4 :=
 ⟨h.cell 0 rfl,h.cell 1 rfl,h.cell 2 rfl,h.cell 3 rfl,h.cell 4 rfl⟩
theorem Bk.f5 {w:World} {g:Nat} {cs:Array Value} {t:TypeId} (h:Bk w g cs t):w.frozen? ⟨g,0,none⟩=false∧w.frozen? ⟨g,1,none⟩=false∧w.frozen? ⟨g,2,none⟩=false∧w.frozen? ⟨g,3,none⟩=false∧w.frozen? ⟨g,4,none⟩=false :=
 ⟨h.frozen 0,h.frozen 1,h.frozen 2,h.frozen 3,h.frozen 4⟩
theorem Bk.c6 {w:World} {g:Nat} {x0 x1 x2 x3 x4 x5:Value} {r:List Value} {t:TypeId} (h:Bk w g (x0::x1::x2::x3::x4::x5::r).toArray t):w.cell? ⟨g,0,none⟩=some x0∧w.cell? ⟨g,1,none⟩=some x1∧w.cell? ⟨g,2,none⟩=some x2∧w.cell? ⟨g,3,none⟩=some x3∧w.cell? ⟨g,4,none⟩=some x4∧w.cell? ⟨g,5,none⟩=some x5 :=
 ⟨h.cell 0 rfl,h.cell 1 rfl,h.cell 2 rfl,h.cell 3 rfl,h.cell 4 rfl,h.cell 5 rfl⟩
theorem Bk.f6 {w:World} {g:Nat} {cs:Array Value} {t:TypeId} (h:Bk w g cs t):w.frozen? ⟨g,0,none⟩=false∧w.frozen? ⟨g,1,none⟩=false∧w.frozen? ⟨g,2,none⟩=false∧w.frozen? ⟨g,3,none⟩=false∧w.frozen? ⟨g,4,none⟩=false∧w.frozen? ⟨g,5,none⟩=false :=
 ⟨h.frozen 0,h.frozen 1,h.frozen 2,h.frozen 3,h.frozen 4,h.frozen 5⟩
theorem Bk.c7 {w:World} {g:Nat} {x0 x1 x2 x3 x4 x5 x6:Value} {r:List Value} {t:TypeId} (h:Bk w g (x0::x1::x2::x3::x4::x5::x6::r).toArray t):w.cell? ⟨g,0,none⟩=some x0∧w.cell? ⟨g,1,none⟩=some x1∧w.cell? ⟨g,2,none⟩=some x2∧w.cell? ⟨g,3,none⟩=some x3∧w.cell? ⟨g,4,none⟩=some x4∧w.cell? ⟨g,5,none⟩=some x5∧w.cell? ⟨g,6,none⟩=some x6 :=
 ⟨h.cell 0 rfl,h.cell 1 rfl,h.cell 2 rfl,h.cell 3 rfl,h.cell 4 rfl,h.cell 5 rfl,h.cell 6 rfl⟩
theorem Bk.f7 {w:World} {g:Nat} {cs:Array Value} {t:TypeId} (h:Bk w g cs t):w.frozen? ⟨g,0,none⟩=false∧w.frozen? ⟨g,1,none⟩=false∧w.frozen? ⟨g,2,none⟩=false∧w.frozen? ⟨g,3,none⟩=false∧w.frozen? ⟨g,4,none⟩=false∧w.frozen? ⟨g,5,none⟩=false∧w.frozen? ⟨g,6,none⟩=false :=
 ⟨h.frozen 0,h.frozen 1,h.frozen 2,h.frozen 3,h.frozen 4,h.frozen 5,h.frozen 6⟩
theorem Bk.c8 {w:World} {g:Nat} {x0 x1 x2 x3 x4 x5 x6 x7:Value} {r:List Value} {t:TypeId} (h:Bk w g (x0::x1::x2::x3::x4::x5::x6::x7::r).toArray t):w.cell? ⟨g,0,none⟩=some x0∧w.cell? ⟨g,1,none⟩=some x1∧w.cell? ⟨g,2,none⟩=some x2∧w.cell? ⟨g,3,none⟩=some x3∧w.cell? ⟨g,4,none⟩=some x4∧w.cell? ⟨g,5,none⟩=some x5∧w.cell? ⟨g,6,none⟩=some x6∧w.cell? ⟨g,7,none⟩=some x7 :=
 ⟨h.cell 0 rfl,h.cell 1 rfl,h.cell 2 rfl,h.cell 3 rfl,h.cell 4 rfl,h.cell 5 rfl,h.cell 6 rfl,h.cell 7 rfl⟩
theorem Bk.f8 {w:World} {g:Nat} {cs:Array Value} {t:TypeId} (h:Bk w g cs t):w.frozen? ⟨g,0,none⟩=false∧w.frozen? ⟨g,1,none⟩=false∧w.frozen? ⟨g,2,none⟩=false∧w.frozen? ⟨g,3,none⟩=false∧w.frozen? ⟨g,4,none⟩=false∧w.frozen? ⟨g,5,none⟩=false∧w.frozen? ⟨g,6,none⟩=false∧w.frozen? ⟨g,7,none⟩=false :=
 ⟨h.frozen 0,h.frozen 1,h.frozen 2,h.frozen 3,h.frozen 4,h.frozen 5,h.frozen 6,h.frozen 7⟩
theorem Bk.c12 {w:World} {g:Nat} {x0 x1 x2 x3 x4 x5 x6 x7 x8 x9 x10 x11:Value} {r:List Value} {t:TypeId} (h:Bk w g (x0::x1::x2::x3::x4::x5::x6::x7::x8::x9::x10::x11::r).toArray t):w.cell? ⟨g,0,none⟩=some x0∧w.cell? ⟨g,1,none⟩=some x1∧w.cell? ⟨g,2,none⟩=some x2∧w.cell? ⟨g,3,none⟩=some x3∧w.cell? ⟨g,4,none⟩=some x4∧w.cell? ⟨g,5,none⟩=some x5∧w.cell? ⟨g,6,none⟩=some x6∧w.cell? ⟨g,7,none⟩=some x7∧w.cell? ⟨g,8,none⟩=some x8∧w.cell? ⟨g,9,none⟩=some x9∧w.cell? ⟨g,10,none⟩=some x10∧w.cell? ⟨g,11,none⟩=some x11 :=
 ⟨h.cell 0 rfl,h.cell 1 rfl,h.cell 2 rfl,h.cell 3 rfl,h.cell 4 rfl,h.cell 5 rfl,h.cell 6 rfl,h.cell 7 rfl,h.cell 8 rfl,h.cell 9 rfl,h.cell 10 rfl,h.cell 11 rfl⟩
theorem Bk.f12 {w:World} {g:Nat} {cs:Array Value} {t:TypeId} (h:Bk w g cs t):w.frozen? ⟨g,0,none⟩=false∧w.frozen? ⟨g,1,none⟩=false∧w.frozen? ⟨g,2,none⟩=false∧w.frozen? ⟨g,3,none⟩=false∧w.frozen? ⟨g,4,none⟩=false∧w.frozen? ⟨g,5,none⟩=false∧w.frozen? ⟨g,6,none⟩=false∧w.frozen? ⟨g,7,none⟩=false∧w.frozen? ⟨g,8,none⟩=false∧w.frozen? ⟨g,9,none⟩=false∧w.frozen? ⟨g,10,none⟩=false∧w.frozen? ⟨g,11,none⟩=false :=
 ⟨h.frozen 0,h.frozen 1,h.frozen 2,h.frozen 3,h.frozen 4,h.frozen 5,h.frozen 6,h.frozen 7,h.frozen 8,h.frozen 9,h.frozen 10,h.frozen 11⟩
end
end Go.Proofs.YtgnfgblkpnfcnaaGreatDoor
section
namespace Go.Proofs.YtgnfgblkpnfcnaaGreatDoor
open Go.RowKit
instance : Coe Int Value := ⟨Value.int .i64⟩
theorem bl1 {w W : World} {o : Obj} (hW : World.alloc w o = W) : Below w.heap.size w W := by rw [← hW]; exact (Below.refl _ _).alloc (Nat.le_refl _) _
theorem bl2 {w W : World} {o p : Obj} (hW : World.alloc (World.alloc w o) p = W) : Below w.heap.size w W := by rw [← hW]; exact ((Below.refl _ _).alloc (Nat.le_refl _) _).alloc (by simp) _
theorem bl3 {w W : World} {o p q : Obj} (hW : World.alloc (World.alloc (World.alloc w o) p) q = W) : Below w.heap.size w W := by rw [← hW]; exact (((Below.refl _ _).alloc (Nat.le_refl _) _).alloc (by simp) _).alloc (by simp; omega) _
theorem sz1 {w W : World} {o : Obj} (hW : World.alloc w o = W) : w.heap.size + 1 ≤ W.heap.size := by rw [← hW]; simp
theorem sz2 {w W : World} {o p : Obj} (hW : World.alloc (World.alloc w o) p = W) : w.heap.size + 1 + 1 ≤ W.heap.size := by rw [← hW]; simp
theorem sz3 {w W : World} {o p q : Obj} (hW : World.alloc (World.alloc (World.alloc w o) p) q = W) : w.heap.size + 1 + 1 + 1 ≤ W.heap.size := by rw [← hW]; simp
theorem bk0 {w W : World} {o : Obj} {n : Nat} (hW : World.alloc w o = W) (h : n = w.heap.size := by simp) : W.heap[n]? = some o := by rw [← hW]; exact zD _ _ _ h
theorem bk1 {w W : World} {o p : Obj} {n : Nat} (hW : World.alloc (World.alloc w o) p = W) (h : n = w.heap.size := by simp) : W.heap[n]? = some o := by rw [← hW]; exact zE (zD _ _ _ h)
theorem bk2 {w W : World} {o p q : Obj} {n : Nat} (hW : World.alloc (World.alloc (World.alloc w o) p) q = W) (h : n = w.heap.size := by simp) : W.heap[n]? = some o := by rw [← hW]; exact zE (zE (zD _ _ _ h))
end Go.Proofs.YtgnfgblkpnfcnaaGreatDoor
end
