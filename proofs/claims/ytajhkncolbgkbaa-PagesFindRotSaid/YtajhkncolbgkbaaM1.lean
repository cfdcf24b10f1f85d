/- Base, Crp, Slp, Str, Dk: joined by program, for one claim. -/
import Derived.Test.YtajhkncolbgkbaaProg
import Derived.WalkKit
import Derived.WalkSpells
import Derived.WalkLawsBesides
import Derived.Lib.Hide
import Derived.Maps.AppendAt
import Derived.Deep.OwnRows
import Derived.Laws.BytesArg
import Derived.Laws.Rows
import Derived.Laws.IdiomStrings
set_option linter.unusedVariables false
set_option linter.unusedSimpArgs false
namespace Go.Proofs.Ytajhkncolbgkbaa
section
open Go.RowKit
structure Bx (p:Prop):Prop where
 out:p
theorem ret_bool {a b:Bool} (h:a=b):Ending.returned (.bool a)=Ending.returned (.bool b):=by rw [h]
theorem cell_new (w:World) (v:Value) (t:TypeId):(w.alloc (.cells #[v] t)).cell? ⟨w.heap.size,0,none⟩=some v:=by
 simp
theorem size_setCell (w:World) (a:Addr) (u:Value):(w.setCell a u).heap.size=w.heap.size:=by simp [World.setCell]
theorem cells_new (w:World) (C:Array Value) (t:TypeId) (i:Nat) (v:Value) (h:C[i]? = some v):(w.alloc (.cells C t)).cell? ⟨w.heap.size,i,none⟩=some v:=by
 unfold World.cell?; rw [heap_alloc_new];simpa using h
theorem frozen_new (w:World) (C:Array Value) (t:TypeId) (i:Nat):(w.alloc (.cells C t)).frozen? ⟨w.heap.size,i,none⟩=false:=by
 unfold World.frozen?; rw [heap_alloc_new];simp
theorem le_alloc {B:Nat} {w:World} (h:B≤w.heap.size) (o:Obj):B≤(w.alloc o).heap.size:=by
 simp;omega
def Sl (w:World) (k:IntKind) (a:Option Addr) (xs:List Int):Prop :=
 ∀ i x,xs[i]? = some x → ∃ b off,a=some ⟨b,off,none⟩∧w.cell? ⟨b,off+i,none⟩=some (.int k x)
theorem Sl.nil (w:World) (k:IntKind) (a:Option Addr):Sl w k a []:=fun i x h=>by simp at h
theorem Sl.below {w w':World} {k:IntKind} {a:Option Addr} {xs:List Int} (h:Sl w k a xs) (hb:Below w.heap.size w w'):Sl w' k a xs:=by
 intro i x hx
 obtain ⟨b,off,rfl,hc⟩:=h i x hx
 exact ⟨b,off,rfl,cell_later hb hc⟩
theorem Sl.drewN {w:World} {k:IntKind} {a:Option Addr} {xs:List Int} (h:Sl w k a xs) (n:Nat):Sl (w.drewN n) k a xs:=h
theorem Sl.drew {w:World} {k:IntKind} {a:Option Addr} {xs:List Int} (h:Sl w k a xs):Sl w.drew k a xs:=h
@[simp,go_sem] theorem Sl.drewN_iff {w:World} {k:IntKind} {a:Option Addr} {xs:List Int} (n:Nat):Sl (w.drewN n) k a xs ↔ Sl w k a xs:=Iff.rfl
@[simp,go_sem] theorem Sl.drew_iff {w:World} {k:IntKind} {a:Option Addr} {xs:List Int}:Sl w.drew k a xs ↔ Sl w k a xs:=Iff.rfl
def Own (w:World) (B:Nat) (e:TypeId) (k:IntKind) (v:Value) (xs:List Int):Prop:=w.ownsRow B e 1 v xs.length (xs.map (Value.int k))
theorem Own.nil (w:World) (B:Nat) (e:TypeId) (k:IntKind):Own w B e k (.slice none 0 0) []:=World.ownsRow_nil w B e 1
theorem Own.form {w:World} {B:Nat} {e:TypeId} {k:IntKind} {v:Value} {xs:List Int} (h:Own w B e k v xs) :
 ∃ a cap,v = .slice a xs.length cap∧Sl w k a xs:=by
 rcases h.2 with ⟨rfl,hn⟩ | ⟨g,cap,cur,rfl,hb,hg,hnc,hcm,hcs,ht⟩
 · have hx:xs=[]:=List.eq_nil_of_length_eq_zero hn
   subst hx
   exact ⟨none,0,rfl,Sl.nil _ _ _⟩
 · refine ⟨_,cap,rfl,fun i x hx=>⟨g,0,rfl,?_⟩⟩
   have hi:i<xs.length:=(List.getElem?_eq_some_iff.1 hx).1
   have hcell:w.cell? ⟨g,i,none⟩=cur[i]? := by simp [World.cell?,hg]
   rw [Nat.zero_add,hcell]
   have h1:(xs.map (Value.int k))[i]? = some (.int k x):=by rw [List.getElem?_map,hx];rfl
   rw [←ht,List.getElem?_take,if_pos (by omega)] at h1
   simpa using h1
theorem Own.sl {w:World} {B:Nat} {e:TypeId} {k:IntKind} {a:Option Addr} {n c:Nat} {xs:List Int} (h:Own w B e k (.slice a n c) xs):Sl w k a xs:=by
 obtain ⟨a',c',he,hs⟩:=h.form
 injection he with h1 h2 h3
 subst h1;exact hs
theorem Own.lt {w:World} {B:Nat} {e:TypeId} {k:IntKind} {v:Value} {xs:List Int} (h:Own w B e k v xs) : ∀ g,v.ownBlock=some g→B≤g∧g<w.heap.size:=World.ownsRow.lt h
theorem Own.below {w w':World} {B:Nat} {e:TypeId} {k:IntKind} {v:Value} {xs:List Int} (h:Own w B e k v xs) (hb:Below w.heap.size w w'):Own w' B e k v xs :=
 World.ownsRow.kept (row:=none) h ⟨hb.os,hb.tape,hb.output,hb.size,fun i hi _=>hb.block i hi⟩ (by cases v.ownBlock <;> simp)
theorem Own.alloc {w:World} {B:Nat} {e:TypeId} {k:IntKind} {v:Value} {xs:List Int} (h:Own w B e k v xs) (o:Obj):Own (w.alloc o) B e k v xs:=World.ownsRow.alloc h o
theorem Own.base {w:World} {B B':Nat} {e:TypeId} {k:IntKind} {v:Value} {xs:List Int} (h:Own w B e k v xs) (hB:B'≤B):Own w B' e k v xs:=by
 refine ⟨h.1,h.2.imp id ?_⟩
 rintro ⟨g,cap,cur,h1,h2,h3⟩
 exact ⟨g,cap,cur,h1,Nat.le_trans hB h2,h3⟩
theorem Own.drew {w:World} {B:Nat} {e:TypeId} {k:IntKind} {v:Value} {xs:List Int} (h:Own w B e k v xs):Own w.drew B e k v xs:=h
theorem Own.drewN {w:World} {B:Nat} {e:TypeId} {k:IntKind} {v:Value} {xs:List Int} (h:Own w B e k v xs) (n:Nat):Own (w.drewN n) B e k v xs:=h
theorem Own.grown {w w':World} {B:Nat} {e:TypeId} {k:IntKind} {v:Value} {xs:List Int} (h:Own w B e k v xs) {row:Option Nat} (hg:w.grownBy w' row) (hne:v.ownBlock=none∨v.ownBlock ≠ row):Own w' B e k v xs :=
 World.ownsRow.kept h hg hne
theorem wpList_append_int {P:Program} {w:World} {ops:Array Oper} {rest:List Oper} {o:Oper} {a:Act} {Q:Exit→Act→World→Prop} (hgd:o.guard=none) (s x:Operand) (t:TypeId)
 (ho:o.op = .call { callee:=.builtin .append,args:=#[s,x],argTypes:=#[t,t] })
 (e:TypeId) (k:IntKind) (z:Value) (bytes:Nat) (hbz:bytes≤8) (ht:P.underlying t=some (.slice e))
 (hi:(P.info? e).map (fun i=>(i.zero,i.size,i.bytes))=some (some z,1,bytes)) (hzs:z.cells.size=1)
 (B:Nat) (v:Value) (xs:List Int) (hs:a.eval s=v) (hown:Own w B e k v xs) (n:Int)
 (ad:Addr) (c:Nat) (hx:a.eval x = .slice (some ad) 1 c) (hcell:w.cell? ad=some (.int k n)) (hlen:xs.length≤1000000000) (hbase:B≤w.heap.size)
 (h : ∀ v' w',Own w' B e k v' (xs++[n])→w.grownBy w' v.ownBlock→(v'.ownBlock=v.ownBlock∨v'.ownBlock=some w.heap.size)→wpList P ops Q rest (a.put o.dst v') w') :
 wpList P ops Q (o::rest) a w:=by
 obtain ⟨i0,hi0,hz0,hz1,hz2⟩:=info_parts hi
 refine wpList_plain hgd fun K hK=>?_
 have hnews : ∀ j u,[Value.int k n][j]? = some u→w.cell? (ad.add j)=some u:=by
  intro j u hu
  match j with
  | 0=>simp at hu;subst hu;simpa [Addr.add] using hcell
  | j+1=>simp at hu
 obtain ⟨v',w',hr,h2,h3,_,h4⟩:=run_append_own_at (P:=P) w B t o.type e i0 z 1 bytes ht hi0 hz0 hz1 hz2 hzs (by omega) v xs.length _ hown ad 1 c [Value.int k n] rfl hnews (by simp [Value.oneCell'])
  (by simp only [maxLen];omega) (by have:(xs.length+1) * bytes≤(xs.length+1) * 8:=Nat.mul_le_mul_left _ hbz;omega) hbase
 unfold Oper.wp execOp
 simp only [ho,resolve,invoke,builtin,Sem.run_bind,Sem.run_pure,Result.andThen_ok,List.map_toArray,List.map_cons,List.map_nil,hs,hx,hr]
 exact hK _ _ (h v' w' (by unfold Own;simpa using h2) h3 h4)
theorem Own.ofRow {w:World} {B b:Nat} {e:TypeId} {k:IntKind} {n:Nat} {F:Nat→Int} {xs:List Int} (h:w.rowIs b e n (fun j=>.int k (F j))) (hb:B≤b) (hn:n≤maxLen) (hx:xs=(List.range n).map F) :
 Own w B e k (.slice (some ⟨b,0,none⟩) n n) xs:=by
 subst hx
 obtain ⟨c,hc,hcs,hg⟩:=h
 refine ⟨by simp,.inr ⟨b,n,c,by simp,hb,hc,by simp,hn,by simp [hcs],?_⟩⟩
 apply List.ext_getElem?
 intro i
 simp only [List.length_map,List.length_range,Nat.mul_one,List.getElem?_take,List.getElem?_map,List.map_map]
 by_cases hi:i<n
 · have:=hg i hi
   simp [hi]
   exact this
 · simp [hi]
theorem Own.at {w:World} {B:Nat} {e:TypeId} {k:IntKind} {v:Value} {xs:List Int} (h:Own w B e k v xs) (hne:0<xs.length) :
 ∃ g cap, v = .slice (some ⟨g, 0, none⟩) xs.length cap ∧ B ≤ g ∧ g < w.heap.size ∧ (∀ i x, xs[i]? = some x → w.cell? ⟨g, i, none⟩ = some (.int k x)) ∧ (∀ i, w.frozen? ⟨g, i, none⟩ = false) ∧
   ∀ i x,Own (w.setCell ⟨g,i,none⟩ (.int k x)) B e k (.slice (some ⟨g,0,none⟩) xs.length cap) (xs.set i x):=by
 obtain ⟨a,cap,rfl,hsl⟩:=h.form
 rcases h.2 with ⟨hv,hn⟩ | ⟨g,cap',cur,hv,hb,hg,hrest⟩
 · omega
 · injection hv with h1 h2 h3
   subst h1 h3
   refine ⟨g,cap,rfl,hb,(Array.getElem?_eq_some_iff.1 hg).1,fun i x hx=>?_,fun i=>World.ownsRow.frozenAt h i,fun i x=>?_⟩
   · obtain ⟨b,off,hbo,hc⟩:=hsl i x hx
     simp only [Option.some.injEq,Addr.mk.injEq] at hbo
     obtain ⟨rfl,rfl,_⟩:=hbo
     simpa using hc
   · have:=World.ownsRow.stored h i (.int k x)
     unfold Own
     rw [List.length_set,List.map_set];exact this.1
theorem Own.lit (w:World) (B:Nat) (e:TypeId) (k:IntKind) (cs:Array Value) (xs:List Int) (n:Nat) (hb:B≤w.heap.size) (hn:n≤maxLen) (hx:xs.length=n) (h:cs=(xs.map (Value.int k)).toArray) :
 Own (w.alloc (.cells cs e)) B e k (.slice (some ⟨w.heap.size,0,none⟩) n n) xs:=by
 subst h hx
 have:=World.ownsRow_lit (e:=e) (size:=1) w (xs.map (Value.int k)).toArray xs.length hb hn (by simp)
 simpa [Own] using this
theorem wpList_append_ints {P:Program} {w:World} {ops:Array Oper} {rest:List Oper} {o:Oper} {a:Act} {Q:Exit→Act→World→Prop} (hgd:o.guard=none) (s x:Operand) (t:TypeId)
 (ho:o.op = .call { callee:=.builtin .append,args:=#[s,x],argTypes:=#[t,t] })
 (e:TypeId) (k:IntKind) (z:Value) (bytes:Nat) (hbz:bytes≤8) (ht:P.underlying t=some (.slice e))
 (hi:(P.info? e).map (fun i=>(i.zero,i.size,i.bytes))=some (some z,1,bytes)) (hzs:z.cells.size=1)
 (B:Nat) (v:Value) (xs:List Int) (hs:a.eval s=v) (hown:Own w B e k v xs) (ys:List Int)
 (A:Option Addr) (m c:Nat) (hx:a.eval x = .slice A m c) (hm:m=ys.length) (hys:Sl w k A ys) (hlen:xs.length+ys.length≤1000000000) (hbase:B≤w.heap.size)
 (h : ∀ v' w',Own w' B e k v' (xs++ys)→w.grownBy w' v.ownBlock→(v'.ownBlock=v.ownBlock∨v'.ownBlock=some w.heap.size)→wpList P ops Q rest (a.put o.dst v') w') :
 wpList P ops Q (o::rest) a w:=by
 subst hm
 obtain ⟨i0,hi0,hz0,hz1,hz2⟩:=info_parts hi
 refine wpList_plain hgd fun K hK=>?_
 have key : ∃ v' w',(Builtin.append_ #[t,t] o.type #[v,.slice A ys.length c]).run P w = .ok v' w'∧Own w' B e k v' (xs++ys)∧w.grownBy w' v.ownBlock∧(v'.ownBlock=v.ownBlock∨v'.ownBlock=some w.heap.size):=by
  cases A with
  | none =>
    have hnil:ys=[]:=by
     cases ys with
     | nil=>rfl
     | cons y l=>obtain ⟨b,off,h0,_⟩:=hys 0 y rfl;cases h0
    subst hnil
    refine ⟨v,w,?_,by simpa using hown,World.grownBy.refl w _,.inl rfl⟩
    rcases hown.2 with ⟨rfl,hn⟩ | ⟨g,cap,cur,rfl,_,_,hnc,_⟩
    · simp [Builtin.append_,run_underlying ht,sizeOf,typeInfo,hi0,Builtin.lenOf,Builtin.firstCells]
    · simp [Builtin.append_,run_underlying ht,sizeOf,typeInfo,hi0,Builtin.lenOf,Builtin.firstCells,hnc,storeCells]
  | some ad =>
    have hnews : ∀ j u,(ys.map (Value.int k))[j]? = some u→w.cell? (ad.add j)=some u:=by
     intro j u hu
     rw [List.getElem?_map] at hu
     cases hy:ys[j]? with
     | none=>rw [hy] at hu;cases hu
     | some y =>
       rw [hy] at hu
       obtain ⟨b,off,h0,hc⟩:=hys j y hy
       injection h0 with h0
       subst h0
       injection hu with hu
       subst hu
       have:(⟨b,off,none⟩:Addr).add j=⟨b,off+j,none⟩:=by unfold Addr.add;split <;> simp_all
       rw [this];exact hc
    obtain ⟨v',w',hr,h2,h3,_,h4⟩:=run_append_own_at (P:=P) w B t o.type e i0 z 1 bytes ht hi0 hz0 hz1 hz2 hzs (by omega) v xs.length _ hown ad ys.length c (ys.map (Value.int k)) (by simp) hnews (ints_oneCell k ys)
     (by simp only [maxLen];omega) (by have:(xs.length+ys.length) * bytes≤(xs.length+ys.length) * 8:=Nat.mul_le_mul_left _ hbz;omega) hbase
    exact ⟨v',w',hr,by unfold Own;simpa using h2,h3,h4⟩
 obtain ⟨v',w',hr,h2,h3,h4⟩:=key
 unfold Oper.wp execOp
 simp only [ho,resolve,invoke,builtin,Sem.run_bind,Sem.run_pure,Result.andThen_ok,List.map_toArray,List.map_cons,List.map_nil,hs,hx,hr]
 exact hK _ _ (h v' w' h2 h3 h4)
theorem conv_str {P:Program} {w:World} (src e dst:TypeId) (hs:P.underlying src=some (.slice e)) (he:P.underlying e=some (.int .u8)) (hd:P.underlying dst=some .string) {a:Option Addr} {xs:List Int} (h:Sl w .u8 a xs) (n cap:Nat) (hn:n=xs.length) :
 (convert src dst (.slice a n cap)).run P w = .ok (.string (strOfNums xs)) w:=by
 subst hn
 cases xs with
 | nil =>
   cases a with
   | none=>exact run_convert_bytes_nil w src e hs he _ _ dst hd
   | some a =>
     have:=run_convert_bytes_string (P:=P) w src dst e (some a) 0 cap hs he hd
     simp only [List.length_nil]
     rw [this,run_bytesToString w a 0 cap [] (by simp [loadCells,loadCellsFrom])]
     rfl
 | cons x l =>
   obtain ⟨b,off,rfl,h0⟩:=h 0 x rfl
   refine run_convert_bytes_arg w src e hs he b off _ cap (x::l) rfl (fun i hi=>?_) dst hd
   obtain ⟨b',off',e',hc⟩:=h i _ (List.getElem?_eq_getElem hi)
   simp only [Option.some.injEq,Addr.mk.injEq] at e'
   obtain ⟨rfl,rfl,_⟩:=e'
   rw [hc];simp [List.getD,List.getElem?_eq_getElem hi]
def Bk (w:World) (g:Nat) (cs:Array Value) (t:TypeId):Prop:=w.heap[g]? = some (.cells cs t (0,0))
theorem blk_new (w:World) (o:Obj) (n:Nat) (h:n=w.heap.size):(w.alloc o).heap[n]? = some o:=by subst h;exact heap_alloc_new w o
theorem blk_old {w:World} {o x:Obj} {n:Nat} (h:w.heap[n]? = some x):(w.alloc o).heap[n]? = some x:=by
 rw [Below.heap_alloc w o n (Array.getElem?_eq_some_iff.1 h).1];exact h
theorem Bk.lt {w:World} {g:Nat} {cs:Array Value} {t:TypeId} (h:Bk w g cs t):g<w.heap.size:=(Array.getElem?_eq_some_iff.1 h).1
theorem Bk.cell {w:World} {g:Nat} {cs:Array Value} {t:TypeId} (h:Bk w g cs t) (j:Nat) {v:Value} (hv:cs[j]? = some v):w.cell? ⟨g,j,none⟩=some v:=by
 rw [cell_of_row w g j cs t (0,0) h];exact hv
theorem Bk.frozen {w:World} {g:Nat} {cs:Array Value} {t:TypeId} (h:Bk w g cs t) (j:Nat):w.frozen? ⟨g,j,none⟩=false:=frozen_of_row w g j cs t h
theorem Bk.later {w w':World} {g:Nat} {cs:Array Value} {t:TypeId} (h:Bk w g cs t) (hb:Below w.heap.size w w'):Bk w' g cs t:=by
 unfold Bk;rw [hb.block g h.lt];exact h
theorem Bk.new (w:World) (cs:Array Value) (t:TypeId):Bk (w.alloc (.cells cs t)) w.heap.size cs t:=heap_alloc_new w _
theorem Bk.alloc {w:World} {g:Nat} {cs:Array Value} {t:TypeId} (h:Bk w g cs t) (o:Obj):Bk (w.alloc o) g cs t:=blk_old h
theorem Bk.drew {w:World} {g:Nat} {cs:Array Value} {t:TypeId} (h:Bk w g cs t):Bk w.drew g cs t:=h
theorem Bk.set {w:World} {g:Nat} {cs:Array Value} {t:TypeId} (h:Bk w g cs t) (j:Nat) (v:Value):Bk (w.setCell ⟨g,j,none⟩ v) g (cs.setIfInBounds j v) t:=heap_setCell_same w g j cs t v h
theorem Bk.other {w:World} {g:Nat} {cs:Array Value} {t:TypeId} (h:Bk w g cs t) (a:Addr) (v:Value) (hne:g ≠ a.block):Bk (w.setCell a v) g cs t:=by
 unfold Bk;rw [heap_setCell_other w a g v hne];exact h
theorem blw3 {B:Nat} {a w:World} (h:Below B a w) {g:Nat} (hg:B≤g) (x y z:Value):Below B a (((w.setCell ⟨g,0,none⟩ x).setCell ⟨g,1,none⟩ y).setCell ⟨g,2,none⟩ z) :=
 ((h.setCell hg _).setCell hg _).setCell hg _
end
section
def crcP:Nat:=3988292384
def crcS (c:Nat):Nat:=if c % 2=1 then (c / 2) ^^^ crcP else c / 2
def crcR:Nat→Nat→Nat
 | 0,c=>c
 | k+1,c=>crcR k (crcS c)
def crcB (c:Nat) (x:Int):Nat:=crcR 8 (c ^^^ x.toNat)
def crcT (l:List Int) (c:Nat):Nat:=l.foldl crcB c
def crcV (l:List Int):Nat:=crcT l 4294967295 ^^^ 4294967295
theorem crcS_lt {c:Nat} (h:c<2 ^ 32):crcS c<2 ^ 32:=by
 unfold crcS
 split
 · exact Nat.xor_lt_two_pow (by omega) (by decide)
 · omega
theorem xor_cancel {a b p:Nat} (h:a ^^^ p=b ^^^ p):a=b:=by
 have:=congrArg (· ^^^ p) h
 simpa [Nat.xor_assoc] using this
theorem crcS_inj {c d:Nat} (hc:c<2 ^ 32) (hd:d<2 ^ 32) (h:crcS c=crcS d):c=d:=by
 have far : ∀ a b:Nat,a<2 ^ 31→b<2 ^ 31→a ^^^ crcP ≠ b:=by
  intro a b ha hb e
  have h1:a ^^^ b=crcP:=by rw [←e,←Nat.xor_assoc,Nat.xor_self,Nat.zero_xor]
  have h2:=Nat.xor_lt_two_pow ha hb
  rw [h1] at h2
  exact absurd h2 (by decide)
 unfold crcS at h
 split at h <;> split at h
 · have:=xor_cancel h;omega
 · exact absurd h (far _ _ (by omega) (by omega))
 · exact absurd h.symm (far _ _ (by omega) (by omega))
 · omega
theorem crcR_lt : ∀ (k:Nat) {c:Nat},c<2 ^ 32→crcR k c<2 ^ 32
 | 0,_,h=>h
 | k+1,_,h=>crcR_lt k (crcS_lt h)
theorem crcR_inj : ∀ (k:Nat) {c d:Nat},c<2 ^ 32→d<2 ^ 32→crcR k c=crcR k d→c=d
 | 0,_,_,_,_,h=>h
 | k+1,_,_,hc,hd,h=>crcS_inj hc hd (crcR_inj k (crcS_lt hc) (crcS_lt hd) h)
def Byts (l:List Int):Prop := ∀ x∈l,0≤x∧x≤255
theorem crcB_lt {c:Nat} (h:c<2 ^ 32) {x:Int} (hx:0≤x∧x≤255):crcB c x<2 ^ 32:=crcR_lt 8 (Nat.xor_lt_two_pow h (by omega))
theorem crcT_lt : ∀ {l:List Int},Byts l → ∀ {c:Nat},c<2 ^ 32→crcT l c<2 ^ 32
 | [],_,_,h=>h
 | x :: l, hl, _, h => by
   unfold crcT
   rw [List.foldl_cons]
   exact crcT_lt (l:=l) (fun y hy=>hl y (by simp [hy])) (crcB_lt h (hl x (by simp)))
theorem crcT_inj : ∀ {l:List Int},Byts l → ∀ {c d:Nat},c<2 ^ 32→d<2 ^ 32→crcT l c=crcT l d→c=d
 | [],_,_,_,_,_,h=>h
 | x :: l, hl, c, d, hc, hd, h => by
   unfold crcT at h
   rw [List.foldl_cons,List.foldl_cons] at h
   have hx:=hl x (by simp)
   have h1:=crcT_inj (l:=l) (fun y hy=>hl y (by simp [hy])) (crcB_lt hc hx) (crcB_lt hd hx) h
   have h2:=crcR_inj 8 (Nat.xor_lt_two_pow hc (by omega)) (Nat.xor_lt_two_pow hd (by omega)) h1
   exact xor_cancel h2
theorem crcT_app (l m:List Int) (c:Nat):crcT (l++m) c=crcT m (crcT l c):=List.foldl_append ..
theorem crc_one {p s:List Int} {x y:Int} (hp:Byts p) (hs:Byts s) (hx:0≤x∧x≤255) (hy:0≤y∧y≤255) (h:crcV (p++x::s)=crcV (p++y::s)):x=y:=by
 have h0:(4294967295:Nat)<2 ^ 32:=by decide
 have h1:=xor_cancel h
 rw [crcT_app,crcT_app] at h1
 have hc:=crcT_lt hp h0
 have h2:=crcT_inj (l:=s) hs (crcB_lt hc hx) (crcB_lt hc hy) h1
 have h3:=crcR_inj 8 (Nat.xor_lt_two_pow hc (by omega)) (Nat.xor_lt_two_pow hc (by omega)) h2
 rw [Nat.xor_comm,Nat.xor_comm _ y.toNat] at h3
 have:=xor_cancel h3
 omega
theorem crcV_lt {l:List Int} (h:Byts l):crcV l<2 ^ 32:=Nat.xor_lt_two_pow (crcT_lt h (by decide)) (by decide)
end
section
def fourP (n:Nat):List Int:=[((n % 256:Nat):Int),((n / 256 % 256:Nat):Int),((n / 65536 % 256:Nat):Int),((n / 16777216 % 256:Nat):Int)]
theorem four_len (n:Nat):(fourP n).length=4:=rfl
theorem byts_four (n:Nat):Byts (fourP n):=by
 intro x hx
 simp only [fourP,List.mem_cons,List.not_mem_nil,or_false] at hx
 rcases hx with rfl | rfl | rfl | rfl <;> omega
theorem four_inj {a b:Nat} (ha:a<2 ^ 32) (hb:b<2 ^ 32) (h:fourP a=fourP b):a=b:=by
 simp only [fourP,List.cons.injEq,and_true,Int.natCast_inj] at h
 omega
def numP (l:List Int):Nat:=(l.getD 0 0).toNat+256 * (l.getD 1 0).toNat+65536 * (l.getD 2 0).toNat+16777216 * (l.getD 3 0).toNat
theorem num_four {n:Nat} (h:n<2 ^ 32) (r:List Int):numP (fourP n++r)=n:=by
 simp only [numP,fourP,List.cons_append,List.nil_append,List.getD_cons_zero,List.getD_cons_succ]
 omega
theorem num_lt {l:List Int} (hb:Byts l):numP l<2 ^ 32:=by
 have key : ∀ i,0≤l.getD i 0∧l.getD i 0≤255:=fun i=>by
  rw [List.getD_eq_getElem?_getD]
  cases h:l[i]? with
  | none=>simp
  | some x=>exact hb x (List.mem_of_getElem? h)
 have h0:=key 0
 have h1:=key 1
 have h2:=key 2
 have h3:=key 3
 unfold numP
 omega
def sealP (n:Nat) (data:List Int):List Int:=fourP n++data++fourP (crcV (fourP n++data))++fourP n
def zerosP (n:Nat):List Int:=List.replicate n 0
def goodP (l:List Int):Prop:=l.length=128∧(l=zerosP 128∨(1≤numP l∧numP l≤2 ^ 30∧l=sealP (numP l) ((l.drop 4).take 116)))
theorem seal_len {n:Nat} {data:List Int} (h:data.length=116):(sealP n data).length=128:=by simp [sealP,four_len,h]
theorem seal_head (n:Nat) (data:List Int):(sealP n data).take 4=fourP n:=by simp [sealP,fourP]
theorem seal_tail {n:Nat} {data:List Int} (h:data.length=116):(sealP n data).drop 124=fourP n:=by
 have:(fourP n++data++fourP (crcV (fourP n++data))).length=124:=by simp [four_len,h]
 unfold sealP
 rw [List.drop_append_of_le_length (by omega),List.drop_of_length_le (by omega),List.nil_append]
theorem seal_num {n:Nat} (hn:n<2 ^ 32) (data:List Int):numP (sealP n data)=n:=by
 unfold sealP
 rw [List.append_assoc,List.append_assoc]
 exact num_four hn _
theorem seal_data {n:Nat} {data:List Int} (h:data.length=116):((sealP n data).drop 4).take 116=data:=by
 unfold sealP
 rw [List.append_assoc,List.append_assoc,List.drop_append_of_le_length (by simp [four_len]),List.drop_of_length_le (by simp [four_len]),List.nil_append,List.take_append_of_le_length (by omega),List.take_of_length_le (by omega)]
theorem seal_good {n:Nat} (h1:1≤n) (h2:n≤2 ^ 30) {data:List Int} (h:data.length=116):goodP (sealP n data):=by
 refine ⟨seal_len h,.inr ?_⟩
 rw [seal_num (by omega),seal_data h]
 exact ⟨h1,h2,rfl⟩
theorem byts_seal {n:Nat} {data:List Int} (h:Byts data):Byts (sealP n data):=by
 intro x hx
 simp only [sealP,List.mem_append] at hx
 rcases hx with ((hx | hx) | hx) | hx
 · exact byts_four _ x hx
 · exact h x hx
 · exact byts_four _ x hx
 · exact byts_four _ x hx
theorem good_ends {l:List Int} (h:goodP l):l.take 4=l.drop 124:=by
 obtain ⟨hl,rfl | ⟨_,_,h⟩⟩:=h
 · decide
 · have hd:((l.drop 4).take 116).length=116:=by simp [hl]
   rw [h,seal_head,seal_tail hd]
theorem rot_sealed {n:Nat} (hn1:1≤n) (hn:n<2 ^ 32) {data:List Int} (hd:data.length=116) (hb:Byts data) (i:Nat) (hi:i<128) (y:Int) (hy:0≤y∧y≤255) (hne:(sealP n data)[i]? ≠ some y) : ¬goodP ((sealP n data).set i y):=by
 intro h
 have hL:=seal_len (n:=n) hd
 have he:=good_ends h
 have hh:=seal_head n data
 have ht:=seal_tail (n:=n) hd
 have hset:((sealP n data).set i y)[i]? = some y:=by rw [List.getElem?_set_self (by omega)]
 rcases Nat.lt_or_ge i 4 with h1 | h1
 · rw [List.drop_set_of_lt (by omega),ht,←hh] at he
   have h2:=congrArg (fun l=>l[i]?) he
   simp only [List.getElem?_take,if_pos h1] at h2
   rw [hset] at h2
   exact hne h2.symm
 rw [List.take_set_of_le (by omega),hh] at he
 rcases Nat.lt_or_ge i 124 with h2 | h2
 rotate_left
 · rw [←ht] at he
   have h3:=congrArg (fun l=>l[i - 124]?) he
   simp only [List.getElem?_drop] at h3
   rw [show 124+(i - 124)=i by omega,hset] at h3
   exact hne h3
 obtain ⟨_,hz | ⟨_,_,hs⟩⟩:=h
 · have h3:=congrArg (fun l=>l.take 4) hz
   simp only [List.take_set_of_le (show 4≤i by omega)] at h3
   rw [hh] at h3
   have h4:fourP n=fourP 0:=h3
   have:=four_inj hn (by decide) h4
   omega
 have hnum:numP ((sealP n data).set i y)=n:=by
  have : ∀ l:List Int,numP l=numP (l.take 4):=fun l=>by
   unfold numP
   simp only [List.getD_eq_getElem?_getD,List.getElem?_take]
   simp
  rw [this,List.take_set_of_le (by omega),hh,←List.append_nil (fourP n),num_four hn]
 rw [hnum] at hs
 generalize hD:(((sealP n data).set i y).drop 4).take 116=D at hs
 have hDl:D.length=116:=by rw [←hD];simp [hL]
 rcases Nat.lt_or_ge i 120 with h3 | h3
 · -- in the data: the checksum differs
   have hD2:D=data.set (i - 4) y:=by
    rw [←hD,List.drop_set,if_neg (by omega),List.take_set,seal_data hd]
   have hc:(((sealP n data).set i y).drop 120).take 4=((sealP n D).drop 120).take 4:=congrArg (fun l=>(l.drop 120).take 4) hs
   rw [List.drop_set_of_lt (by omega)] at hc
   have key : ∀ d:List Int,d.length=116→((sealP n d).drop 120).take 4=fourP (crcV (fourP n++d)):=fun d hd=>by
    unfold sealP
    rw [List.append_assoc,List.drop_append_of_le_length (by simp [four_len,hd]),List.drop_of_length_le (by simp [four_len,hd]),List.nil_append,List.take_append_of_le_length (by simp [four_len]),List.take_of_length_le (by simp [four_len])]
   have hby:Byts D:=by
    rw [hD2];intro x hx
    rcases List.mem_or_eq_of_mem_set hx with hx | rfl
    · exact hb x hx
    · exact hy
   have happ : ∀ d:List Int,Byts d→Byts (fourP n++d):=fun d h x hx=>by
    rcases List.mem_append.1 hx with hx | hx
    · exact byts_four _ x hx
    · exact h x hx
   rw [key data hd,key D hDl] at hc
   have hcr:=four_inj (crcV_lt (happ _ hb)) (crcV_lt (happ _ hby)) hc
   have hj:i - 4<data.length:=by omega
   have e1:data=data.take (i - 4)++data[i - 4]::data.drop (i - 4+1):=by rw [←List.drop_eq_getElem_cons hj,List.take_append_drop]
   have e2:data.set (i - 4) y=data.take (i - 4)++y::data.drop (i - 4+1):=by rw [List.set_eq_take_append_cons_drop,if_pos hj]
   rw [hD2,e2] at hcr
   have hcr2:crcV ((fourP n++data.take (i - 4))++data[i - 4]::data.drop (i - 4+1))=crcV ((fourP n++data.take (i - 4))++y::data.drop (i - 4+1)):=by
    rw [List.append_assoc,←e1,List.append_assoc];exact hcr
   have hxy:=crc_one (happ _ fun x hx=>hb x (List.mem_of_mem_take hx)) (fun x hx=>hb x (List.mem_of_mem_drop hx)) (hb _ (List.getElem_mem hj)) hy hcr2
   apply hne
   have:(sealP n data)[i]? = data[i - 4]? := by
    have h5:=congrArg (fun l=>l[i - 4]?) (seal_data (n:=n) hd)
    simp only [List.getElem?_take,List.getElem?_drop] at h5
    rw [if_pos (by omega),show 4+(i - 4)=i by omega] at h5
    exact h5
   rw [this,List.getElem?_eq_getElem hj,hxy]
 · -- in the checksum
   have hD2:D=data:=by
    rw [←hD,List.drop_set,if_neg (by omega),List.take_set_of_le (by omega),seal_data hd]
   rw [hD2] at hs
   have h3:((sealP n data).set i y)[i]? = (sealP n data)[i]? := congrArg (fun l=>l[i]?) hs
   rw [hset] at h3
   exact hne h3.symm
end
section
open Go.RowKit
def Byt (t:List Int):Prop := ∀ x∈t,0≤x∧x≤255
def bs (s:ByteArray):List Int:=s.data.toList.map fun b=>(b.toNat:Int)
theorem bs_str {t:List Int} (h:Byt t):bs (strOfNums t)=t:=by
 unfold bs
 rw [strOfNums_data,List.map_map]
 conv=>rhs;rw [←List.map_id t]
 apply List.map_congr_left
 intro x hx
 have:=h x hx
 simp [UInt8.toNat_ofNat']
 omega
theorem Byt.drop {t:List Int} (h:Byt t) (k:Nat):Byt (t.drop k):=fun x hx=>h x (List.mem_of_mem_drop hx)
theorem Byt.take {t:List Int} (h:Byt t) (k:Nat):Byt (t.take k):=fun x hx=>h x (List.mem_of_mem_take hx)
theorem Byt.append {t u:List Int} (h:Byt t) (h':Byt u):Byt (t++u):=fun x hx=>by
 rcases List.mem_append.1 hx with h1 | h1
 · exact h x h1
 · exact h' x h1
theorem Byt.get {t:List Int} (h:Byt t) {k:Nat} {x:Int} (hx:t[k]? = some x):0≤x∧x≤255:=h x (List.mem_of_getElem? hx)
theorem str_append (t u:List Int):strOfNums t++strOfNums u=strOfNums (t++u):=by
 apply ByteArray.ext
 simp [strOfNums]
theorem str_extract (t:List Int) (a b:Nat):(strOfNums t).extract a b=strOfNums ((t.drop a).take (b - a)):=by
 unfold strOfNums
 rw [ByteArray.extract_mk,←List.map_drop,←List.map_take]
theorem str_get {t:List Int} (h:Byt t) {k:Nat} {x:Int} (hx:t[k]? = some x) : ∃ hk:k<(strOfNums t).size,(((strOfNums t)[k]'hk).toNat:Int)=x:=by
 obtain ⟨hk,rfl⟩:=List.getElem?_eq_some_iff.1 hx
 refine ⟨by rw [strOfNums_size];exact hk,?_⟩
 have h1:=h _ (List.getElem_mem hk)
 show (((strOfNums t).data[k]'_).toNat:Int)=t[k]
 simp [strOfNums,UInt8.toNat_ofNat']
 omega
theorem idx_str {P:Program} (T:TypeId) (hu:P.underlying T=some .string) {t:List Int} (hb:Byt t) {k:Nat} {x:Int} (h:t[k]? = some x) (w:World) :
 (Instr.index T (.string (strOfNums t)) (.int .i64 (k:Int))).run P w = .ok (.int .u8 x) w:=by
 obtain ⟨hk,hx⟩:=str_get hb h
 rw [run_index_string w T _ _ _ hu,dif_pos ⟨by omega,by omega⟩]
 simp only [Int.toNat_natCast]
 rw [hx]
theorem bytes_of_str {P:Program} (src dst e:TypeId) (hs:P.underlying src=some .string) (hd:P.underlying dst=some (.slice e)) (he:P.underlying e=some (.int .u8)) {t:List Int} (hb:Byt t) (w:World) :
 ∃ c W,(convert src dst (.string (strOfNums t))).run P w = .ok (.slice (some ⟨w.heap.size,0,none⟩) t.length c) W∧Sl W .u8 (some ⟨w.heap.size,0,none⟩) t∧Below w.heap.size w W:=by
 have h:=run_bytes_of_string (P:=P) w src dst e (strOfNums t) hs hd he
 rw [strOfNums_size] at h
 refine ⟨_,_,h,fun i x hx=>⟨_,0,rfl,?_⟩,(Below.refl _ _).drew.alloc (Nat.le_refl _) _⟩
 obtain ⟨hk,hv⟩:=str_get hb hx
 have:=World.cell?_alloc_mark w.drew (bytesRow (strOfNums t) (grownCap w t.length 0 e)) e ((bytesRow (strOfNums t) (grownCap w t.length 0 e)).size,(bytesRow (strOfNums t) (grownCap w t.length 0 e)).size+1) i
 rw [Nat.zero_add]
 refine Eq.trans this ?_
 have h2:=bytesRow_at (strOfNums t) (grownCap w t.length 0 e) i hk
 rw [←hv];exact h2
end
section
abbrev Pg:=List Int × Option (List Int)
structure Dk where
 p:List Pg
 off:Bool
 trip:Int
def zer:List Int:=List.replicate 128 0
def PgOk (x:Pg):Prop:=x.1.length=128∧Byt x.1 ∧ ∀ n,x.2=some n→n.length=128∧Byt n
structure DkOk (d:Dk):Prop where
 pages : ∀ x∈d.p,PgOk x
 lo : -1≤d.trip
 hi:d.trip≤9223372036854775807
 few:d.p.length≤120
theorem byt_zer:Byt zer:=fun x hx=>by unfold zer at hx;rw [List.mem_replicate] at hx;omega
theorem zer_len:zer.length=128:=List.length_replicate ..
def Pg.now (x:Pg):List Int:=x.2.getD x.1
theorem PgOk.now {x:Pg} (h:PgOk x):x.now.length=128∧Byt x.now:=by
 obtain ⟨a,b⟩:=x
 cases b with
 | none=>exact ⟨h.1,h.2.1⟩
 | some n=>exact h.2.2 n rfl
def Pg.settle (c:Nat) (x:Pg):Pg:=match x.2 with
 | none=>x
 | some n=>(n.take c++x.1.drop c,none)
theorem PgOk.settle {x:Pg} (h:PgOk x) (c:Nat):PgOk (x.settle c):=by
 obtain ⟨a,b⟩:=x
 cases b with
 | none=>exact h
 | some n =>
   obtain ⟨h1,h2,h3⟩:=h
   obtain ⟨h4,h5⟩:=h3 n rfl
   refine ⟨?_,?_,fun n hn=>by cases hn⟩
   · simp only [Pg.settle,List.length_append,List.length_take,List.length_drop]
     simp only at h1
     omega
   · exact (h5.take c).append (h2.drop c)
theorem settle_none (x:Pg) (c:Nat):(x.settle c).2=none:=by
 obtain ⟨a,b⟩:=x
 cases b <;> rfl
def pendOf (p:List Pg):List Nat:=(List.range p.length).filter fun i=>(p[i]?.bind (·.2)).isSome
def rank (p:List Pg) (i:Nat):Nat:=((List.range i).filter fun i=>(p[i]?.bind (·.2)).isSome).length
def isPend (p:List Pg) (i:Nat):Bool:=(p[i]?.bind (·.2)).isSome
theorem isPend_lt {p:List Pg} {i:Nat} (h:isPend p i=true):i<p.length:=by
 unfold isPend at h
 cases h1:p[i]? with
 | none=>rw [h1] at h;cases h
 | some x=>exact (List.getElem?_eq_some_iff.1 h1).1
theorem mem_pend {p:List Pg} {i:Nat}:i∈pendOf p ↔ isPend p i=true:=by
 unfold pendOf
 rw [List.mem_filter,List.mem_range]
 exact ⟨fun h=>h.2,fun h=>⟨isPend_lt h,h⟩⟩
theorem rank_succ (p:List Pg) (i:Nat):rank p (i+1)=rank p i+if isPend p i=true then 1 else 0:=by
 unfold rank
 rw [List.range_succ,List.filter_append,List.length_append]
 unfold isPend
 cases h:(p[i]?.bind (·.2)).isSome <;> simp [h]
theorem rank_mono (p:List Pg) {i j:Nat} (h:i≤j):rank p i≤rank p j:=by
 induction j with
 | zero => have : i = 0 := by omega
           subst this;exact Nat.le_refl _
 | succ j ih =>
   by_cases e:i=j+1
   · subst e;exact Nat.le_refl _
   · have:=ih (by omega)
     rw [rank_succ];omega
theorem rank_lt (p:List Pg) {i j:Nat} (hi:isPend p i=true) (h:i<j):rank p i<rank p j:=by
 have h1:=rank_succ p i
 rw [if_pos hi] at h1
 have:=rank_mono p (show i+1≤j by omega)
 omega
theorem rank_inj (p:List Pg) {i j:Nat} (hi:isPend p i=true) (hj:isPend p j=true) (h:rank p i=rank p j):i=j:=by
 rcases Nat.lt_trichotomy i j with h1 | h1 | h1
 · have:=rank_lt p hi h1;omega
 · exact h1
 · have:=rank_lt p hj h1;omega
theorem rank_at {p:List Pg} {k i:Nat} (h:(pendOf p)[k]? = some i):isPend p i=true∧rank p i=k:=by
 have hm:=mem_pend.1 (List.mem_of_getElem? h)
 refine ⟨hm,?_⟩
 have key : ∀ n i k,((List.range n).filter fun i=>(p[i]?.bind (·.2)).isSome)[k]? = some i→rank p i=k:=by
  intro n
  induction n with
  | zero=>intro i k h;simp at h
  | succ n ih =>
    intro i k h
    rw [List.range_succ,List.filter_append] at h
    by_cases hk:k<((List.range n).filter fun i=>(p[i]?.bind (·.2)).isSome).length
    · rw [List.getElem?_append_left hk] at h
      exact ih i k h
    · rw [List.getElem?_append_right (by omega)] at h
      have hk2:k=rank p n:=by
       unfold rank
       have:=(List.getElem?_eq_some_iff.1 h).1
       have h3:([n].filter fun i=>(p[i]?.bind (·.2)).isSome).length≤1:=List.length_filter_le _ _
       omega
      have:=List.mem_of_getElem? h
      rw [List.mem_filter,List.mem_singleton] at this
      rw [this.1,hk2]
 exact key _ _ _ h
theorem at_rank {p:List Pg} {i:Nat} (h:isPend p i=true):(pendOf p)[rank p i]? = some i:=by
 obtain ⟨k,hk⟩:=List.getElem?_of_mem (mem_pend.2 h)
 rw [(rank_at hk).2];exact hk
theorem pend_len_le (p:List Pg):(pendOf p).length≤p.length:=by
 have:=List.length_filter_le (fun i=>(p[i]?.bind (·.2)).isSome) (List.range p.length)
 rw [List.length_range] at this
 exact this
theorem pend_sorted (p:List Pg):(pendOf p).Pairwise (· < ·):=List.Pairwise.filter _ List.pairwise_lt_range
def pick (picks:List Int) (k:Nat):Nat:=match picks[k]? with
 | none=>128
 | some x=>(min (max x 0) 128).toNat
theorem pick_le (picks:List Int) (k:Nat):pick picks k≤128:=by
 unfold pick
 split <;> omega
def Dk.is (d:Dk) (i:Int):Bool:=decide (0≤i) && decide (i<d.p.length)
def Dk.step (d:Dk):Dk × Bool :=
 if d.trip=0 then ({ d with off:=true },false) else if 0<d.trip then ({ d with trip:=d.trip - 1 },true) else (d,true)
def mkDk (pages:Nat):Dk:=⟨List.replicate pages (zer,none),false,-1⟩
def eDown:Int:=20
def eArg:Int:=1
def Dk.read (d:Dk) (i:Int):List Int × Int :=
 if d.off=true then ([],eDown) else if d.is i=false then ([],eArg) else ((d.p[i.toNat]?.map Pg.now).getD [],0)
def put (old:List Int) (at_:Nat) (s:List Int):List Int:=old.take at_++s++old.drop (at_+s.length)
def Dk.write (d:Dk) (i at_:Int) (s:List Int):Dk × Int :=
 if d.off=true then (d,eDown) else if (d.is i && decide (0≤at_) && decide (at_≤128) && decide ((s.length:Int)≤128 - at_))=false then (d,eArg)
 else if d.step.2=false then (d.step.1,eDown)
 else ({ d.step.1 with p:=d.p.modify i.toNat fun x=>(x.1,some (put x.now at_.toNat s)) },0)
def Dk.flush (d:Dk):Dk × Int :=
 if d.off=true then (d,eDown) else if d.step.2=false then (d.step.1,eDown) else ({ d.step.1 with p:=d.p.map fun x=>(x.now,none) },0)
def Dk.setTrip (d:Dk) (n:Int):Dk:={ d with trip:=max n (-1) }
def settled (p:List Pg) (picks:List Int) (k:Nat):List Pg:=p.mapIdx fun i x=>if rank p i<k then x.settle (pick picks (rank p i)) else x
def Dk.mount (d:Dk) (picks:List Int):Dk:=⟨settled d.p picks (pendOf d.p).length,false,-1⟩
def flip (l:List Int) (n:Nat) (b:Nat):List Int:=l.modify n fun x=>bits .xor .u8 x (2 ^ b)
def Dk.rot (d:Dk) (i bit:Int):Dk × Int :=
 if (d.is i && decide (0≤bit) && decide (bit<1024))=false then (d,eArg)
 else ({ d with p:=d.p.modify i.toNat fun x=>(flip x.1 (bit.toNat / 8) (bit.toNat % 8),x.2) },0)
def Dk.image (d:Dk):List (List Int):=d.p.map (·.1)
theorem settled_zero (p:List Pg) (picks:List Int):settled p picks 0=p:=by
 unfold settled
 apply List.ext_getElem?
 intro i
 rw [List.getElem?_mapIdx]
 cases p[i]? <;> simp
theorem settled_len (p:List Pg) (picks:List Int) (k:Nat):(settled p picks k).length=p.length:=by unfold settled;rw [List.length_mapIdx]
theorem settled_at {p:List Pg} {i:Nat} {x:Pg} (h:p[i]? = some x) (picks:List Int) (k:Nat):(settled p picks k)[i]? = some (if rank p i<k then x.settle (pick picks (rank p i)) else x):=by
 unfold settled
 rw [List.getElem?_mapIdx,h];rfl
theorem settle_not {p:List Pg} {i:Nat} {x:Pg} (h:p[i]? = some x) (hn:isPend p i=false) (c:Nat):x.settle c=x:=by
 unfold isPend at hn
 rw [h] at hn
 obtain ⟨a,b⟩:=x
 cases b with
 | none=>rfl
 | some n=>cases hn
theorem settled_succ {p:List Pg} {k i:Nat} (h:(pendOf p)[k]? = some i) (picks:List Int):settled p picks (k+1)=(settled p picks k).modify i (Pg.settle (pick picks k)):=by
 obtain ⟨hp,hr⟩:=rank_at h
 apply List.ext_getElem?
 intro j
 rw [List.getElem?_modify]
 cases hj:p[j]? with
 | none =>
   have hl:=List.getElem?_eq_none_iff.1 hj
   rw [List.getElem?_eq_none_iff.2 (by rw [settled_len];exact hl),List.getElem?_eq_none_iff.2 (by rw [settled_len];exact hl)];rfl
 | some x =>
   rw [settled_at hj,settled_at hj]
   by_cases e:i=j
   · subst e
     simp only [hr,if_true,Nat.lt_irrefl,if_false,show k<k+1 by omega]
     rfl
   · simp only [if_neg e]
     show some _=some _
     congr 1
     by_cases hjp:isPend p j=true
     · have hne:rank p j ≠ k:=fun e2=>e (rank_inj p hp hjp (hr.trans e2.symm))
       by_cases h1:rank p j<k
       · rw [if_pos h1,if_pos (by omega)]
       · rw [if_neg h1,if_neg (by omega)]
     · have hjp:isPend p j=false:=by simpa using hjp
       rw [settle_not hj hjp,ite_self,ite_self]
theorem settled_end_none {p:List Pg} (picks:List Int) {x:Pg} (hx:x∈settled p picks (pendOf p).length):x.2=none:=by
 obtain ⟨i,hi⟩:=List.getElem?_of_mem hx
 cases hj:p[i]? with
 | none =>
   have hl:=List.getElem?_eq_none_iff.1 hj
   rw [List.getElem?_eq_none_iff.2 (by rw [settled_len];exact hl)] at hi;cases hi
 | some y =>
   rw [settled_at hj] at hi
   by_cases hp:isPend p i=true
   · have hr:=(List.getElem?_eq_some_iff.1 (at_rank hp)).1
     rw [if_pos hr] at hi
     injection hi with hi
     rw [←hi];exact settle_none _ _
   · have hp:isPend p i=false:=by simpa using hp
     rw [settle_not hj hp,ite_self] at hi
     injection hi with hi
     subst hi
     unfold isPend at hp
     rw [hj] at hp
     cases h2:y.2 with
     | none=>rfl
     | some n=>rw [Option.bind_some,h2] at hp;cases hp
end
section
open Go.RowKit
theorem Bk.c2 {w:World} {g:Nat} {x0 x1:Value} {r:List Value} {t:TypeId} (h:Bk w g (x0::x1::r).toArray t):w.cell? ⟨g,0,none⟩=some x0∧w.cell? ⟨g,1,none⟩=some x1 :=
 ⟨h.cell 0 rfl,h.cell 1 rfl⟩
theorem Bk.f2 {w:World} {g:Nat} {cs:Array Value} {t:TypeId} (h:Bk w g cs t):w.frozen? ⟨g,0,none⟩=false∧w.frozen? ⟨g,1,none⟩=false :=
 ⟨h.frozen 0,h.frozen 1⟩
theorem Bk.c3 {w:World} {g:Nat} {x0 x1 x2:Value} {r:List Value} {t:TypeId} (h:Bk w g (x0::x1::x2::r).toArray t):w.cell? ⟨g,0,none⟩=some x0∧w.cell? ⟨g,1,none⟩=some x1∧w.cell? ⟨g,2,none⟩=some x2 :=
 ⟨h.cell 0 rfl,h.cell 1 rfl,h.cell 2 rfl⟩
theorem Bk.f3 {w:World} {g:Nat} {cs:Array Value} {t:TypeId} (h:Bk w g cs t):w.frozen? ⟨g,0,none⟩=false∧w.frozen? ⟨g,1,none⟩=false∧w.frozen? ⟨g,2,none⟩=false :=
 ⟨h.frozen 0,h.frozen 1,h.frozen 2⟩
theorem Bk.c4 {w:World} {g:Nat} {x0 x1 x2 x3:Value} {r:List Value} {t:TypeId} (h:Bk w g (x0::x1::x2::x3::r).toArray t):w.cell? ⟨g,0,none⟩=some x0∧w.cell? ⟨g,1,none⟩=some x1∧w.cell? ⟨g,2,none⟩=some x2∧w.cell? ⟨g,3,none⟩=some x3 :=
 ⟨h.cell 0 rfl,h.cell 1 rfl,h.cell 2 rfl,h.cell 3 rfl⟩
theorem Bk.f4 {w:World} {g:Nat} {cs:Array Value} {t:TypeId} (h:Bk w g cs t):w.frozen? ⟨g,0,none⟩=false∧w.frozen? ⟨g,1,none⟩=false∧w.frozen? ⟨g,2,none⟩=false∧w.frozen? ⟨g,3,none⟩=false :=
 ⟨h.frozen 0,h.frozen 1,h.frozen 2,h.frozen 3⟩
theorem Bk.c5 {w:World} {g:Nat} {x0 x1 x2 x3 x4:Value} {r:List Value} {t:TypeId} (h:Bk w g (x0::x1::x2::x3::x4::r).toArray t):w.cell? ⟨g,0,none⟩=some x0∧w.cell? ⟨g,1,none⟩=some x1∧w.cell? ⟨g,2,none⟩=some x2∧w.cell? ⟨g,3,none⟩=some x3∧w.cell? ⟨g,4,none⟩=some x4 :=
 ⟨h.cell 0 rfl,h.cell 1 rfl,h.cell 2 rfl,h.cell 3 rfl,h.cell 4 rfl⟩
theorem Bk.f5 {w:World} {g:Nat} {cs:Array Value} {t:TypeId} (h:Bk w g cs t):w.frozen? ⟨g,0,none⟩=false∧w.frozen? ⟨g,1,none⟩=false∧w.frozen? ⟨g,2,none⟩=false∧w.frozen? ⟨g,3,none⟩=false∧w.frozen? ⟨g,4,none⟩=false :=
 ⟨h.frozen 0,h.frozen 1,h.frozen 2,h.frozen 3,h.frozen 4⟩
theorem Bk.c6 {w:World} {g:Nat} {x0 x1 x2 x3 x4 x5:Value} {r:List Value} {t:TypeId} (h:Bk w g (x0::x1::x2::x3::x4::x5::r).toArray t):w.cell? ⟨g,0,none⟩=some x0∧w.cell? ⟨g,1,none⟩=some x1∧w.cell? ⟨g,2,none⟩=some x2∧w.cell? ⟨g,3,none⟩=some x3∧w.cell? ⟨g,4,none⟩=some x4∧w.cell? ⟨g,5,none⟩=some x5 :=
 ⟨h.cell 0 rfl,h.cell 1 rfl,h.cell 2 rfl,h.cell 3 rfl,h.cell 4 rfl,h.cell 5 rfl⟩
theorem Bk.f6 {w:World} {g:Nat} {cs:Array Value} {t:TypeId} (h:Bk w g cs t):w.frozen? ⟨g,0,none⟩=false∧w.frozen? ⟨g,1,none⟩=false∧w.frozen? ⟨g,2,none⟩=false∧w.frozen? ⟨g,3,none⟩=false∧w.frozen? ⟨g,4,none⟩=false∧w.frozen? ⟨g,5,none⟩=false :=
 ⟨h.frozen 0,h.frozen 1,h.frozen 2,h.frozen 3,h.frozen 4,h.frozen 5⟩
theorem Bk.c7 {w:World} {g:Nat} {x0 x1 x2 x3 x4 x5 x6:Value} {r:List Value} {t:TypeId} (h:Bk w g (x0::x1::x2::x3::x4::x5::x6::r).toArray t):w.cell? ⟨g,0,none⟩=some x0∧w.cell? ⟨g,1,none⟩=some x1∧w.cell? ⟨g,2,none⟩=some x2∧w.cell? ⟨g,3,none⟩=some x3∧w.cell? ⟨g,4,none⟩=some x4∧w.cell? ⟨g,5,none⟩=some x5∧w.cell? ⟨g,6,none⟩=some x6 :=
 ⟨h.cell 0 rfl,h.cell 1 rfl,h.cell 2 rfl,h.cell 3 rfl,h.cell 4 rfl,h.cell 5 rfl,h.cell 6 rfl⟩
theorem Bk.f7 {w:World} {g:Nat} {cs:Array Value} {t:TypeId} (h:Bk w g cs t):w.frozen? ⟨g,0,none⟩=false∧w.frozen? ⟨g,1,none⟩=false∧w.frozen? ⟨g,2,none⟩=false∧w.frozen? ⟨g,3,none⟩=false∧w.frozen? ⟨g,4,none⟩=false∧w.frozen? ⟨g,5,none⟩=false∧w.frozen? ⟨g,6,none⟩=false :=
 ⟨h.frozen 0,h.frozen 1,h.frozen 2,h.frozen 3,h.frozen 4,h.frozen 5,h.frozen 6⟩
theorem Bk.c8 {w:World} {g:Nat} {x0 x1 x2 x3 x4 x5 x6 x7:Value} {r:List Value} {t:TypeId} (h:Bk w g (x0::x1::x2::x3::x4::x5::x6::x7::r).toArray t):w.cell? ⟨g,0,none⟩=some x0∧w.cell? ⟨g,1,none⟩=some x1∧w.cell? ⟨g,2,none⟩=some x2∧w.cell? ⟨g,3,none⟩=some x3∧w.cell? ⟨g,4,none⟩=some x4∧w.cell? ⟨g,5,none⟩=some x5∧w.cell? ⟨g,6,none⟩=some x6∧w.cell? ⟨g,7,none⟩=some x7 :=
 ⟨h.cell 0 rfl,h.cell 1 rfl,h.cell 2 rfl,h.cell 3 rfl,h.cell 4 rfl,h.cell 5 rfl,h.cell 6 rfl,h.cell 7 rfl⟩
theorem Bk.f8 {w:World} {g:Nat} {cs:Array Value} {t:TypeId} (h:Bk w g cs t):w.frozen? ⟨g,0,none⟩=false∧w.frozen? ⟨g,1,none⟩=false∧w.frozen? ⟨g,2,none⟩=false∧w.frozen? ⟨g,3,none⟩=false∧w.frozen? ⟨g,4,none⟩=false∧w.frozen? ⟨g,5,none⟩=false∧w.frozen? ⟨g,6,none⟩=false∧w.frozen? ⟨g,7,none⟩=false :=
 ⟨h.frozen 0,h.frozen 1,h.frozen 2,h.frozen 3,h.frozen 4,h.frozen 5,h.frozen 6,h.frozen 7⟩
theorem Bk.c12 {w:World} {g:Nat} {x0 x1 x2 x3 x4 x5 x6 x7 x8 x9 x10 x11:Value} {r:List Value} {t:TypeId} (h:Bk w g (x0::x1::x2::x3::x4::x5::x6::x7::x8::x9::x10::x11::r).toArray t):w.cell? ⟨g,0,none⟩=some x0∧w.cell? ⟨g,1,none⟩=some x1∧w.cell? ⟨g,2,none⟩=some x2∧w.cell? ⟨g,3,none⟩=some x3∧w.cell? ⟨g,4,none⟩=some x4∧w.cell? ⟨g,5,none⟩=some x5∧w.cell? ⟨g,6,none⟩=some x6∧w.cell? ⟨g,7,none⟩=some x7∧w.cell? ⟨g,8,none⟩=some x8∧w.cell? ⟨g,9,none⟩=some x9∧w.cell? ⟨g,10,none⟩=some x10∧w.cell? ⟨g,11,none⟩=some x11 :=
 ⟨h.cell 0 rfl,h.cell 1 rfl,h.cell 2 rfl,h.cell 3 rfl,h.cell 4 rfl,h.cell 5 rfl,h.cell 6 rfl,h.cell 7 rfl,h.cell 8 rfl,h.cell 9 rfl,h.cell 10 rfl,h.cell 11 rfl⟩
theorem Bk.f12 {w:World} {g:Nat} {cs:Array Value} {t:TypeId} (h:Bk w g cs t):w.frozen? ⟨g,0,none⟩=false∧w.frozen? ⟨g,1,none⟩=false∧w.frozen? ⟨g,2,none⟩=false∧w.frozen? ⟨g,3,none⟩=false∧w.frozen? ⟨g,4,none⟩=false∧w.frozen? ⟨g,5,none⟩=false∧w.frozen? ⟨g,6,none⟩=false∧w.frozen? ⟨g,7,none⟩=false∧w.frozen? ⟨g,8,none⟩=false∧w.frozen? ⟨g,9,none⟩=false∧w.frozen? ⟨g,10,none⟩=false∧w.frozen? ⟨g,11,none⟩=false :=
 ⟨h.frozen 0,h.frozen 1,h.frozen 2,h.frozen 3,h.frozen 4,h.frozen 5,h.frozen 6,h.frozen 7,h.frozen 8,h.frozen 9,h.frozen 10,h.frozen 11⟩
end
end Go.Proofs.Ytajhkncolbgkbaa
section
namespace Go.Proofs.Ytajhkncolbgkbaa
open Go.RowKit
instance : Coe Int Value := ⟨Value.int .i64⟩
theorem bl1 {w W : World} {o : Obj} (hW : World.alloc w o = W) : Below w.heap.size w W := by rw [← hW]; exact (Below.refl _ _).alloc (Nat.le_refl _) _
theorem bl2 {w W : World} {o p : Obj} (hW : World.alloc (World.alloc w o) p = W) : Below w.heap.size w W := by rw [← hW]; exact ((Below.refl _ _).alloc (Nat.le_refl _) _).alloc (by simp) _
theorem bl3 {w W : World} {o p q : Obj} (hW : World.alloc (World.alloc (World.alloc w o) p) q = W) : Below w.heap.size w W := by rw [← hW]; exact (((Below.refl _ _).alloc (Nat.le_refl _) _).alloc (by simp) _).alloc (by simp; omega) _
theorem sz1 {w W : World} {o : Obj} (hW : World.alloc w o = W) : w.heap.size + 1 ≤ W.heap.size := by rw [← hW]; simp
theorem sz2 {w W : World} {o p : Obj} (hW : World.alloc (World.alloc w o) p = W) : w.heap.size + 1 + 1 ≤ W.heap.size := by rw [← hW]; simp
theorem sz3 {w W : World} {o p q : Obj} (hW : World.alloc (World.alloc (World.alloc w o) p) q = W) : w.heap.size + 1 + 1 + 1 ≤ W.heap.size := by rw [← hW]; simp
theorem bk0 {w W : World} {o : Obj} {n : Nat} (hW : World.alloc w o = W) (h : n = w.heap.size := by simp) : W.heap[n]? = some o := by rw [← hW]; exact blk_new _ _ _ h
theorem bk1 {w W : World} {o p : Obj} {n : Nat} (hW : World.alloc (World.alloc w o) p = W) (h : n = w.heap.size := by simp) : W.heap[n]? = some o := by rw [← hW]; exact blk_old (blk_new _ _ _ h)
theorem bk2 {w W : World} {o p q : Obj} {n : Nat} (hW : World.alloc (World.alloc (World.alloc w o) p) q = W) (h : n = w.heap.size := by simp) : W.heap[n]? = some o := by rw [← hW]; exact blk_old (blk_old (blk_new _ _ _ h))
end Go.Proofs.Ytajhkncolbgkbaa
end
