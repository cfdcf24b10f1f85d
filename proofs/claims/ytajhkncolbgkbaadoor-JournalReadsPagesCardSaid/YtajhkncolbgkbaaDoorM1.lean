/- Base, Crp, Slp, Str, Dk, Pgp, Node, Vox, Tree: joined by program, for one claim. -/
import Derived.Test.YtajhkncolbgkbaaDoorProg
import Derived.WalkKit
import Derived.WalkSpells
import Derived.WalkLawsBesides
import Derived.Lib.Hide
import Derived.Maps.AppendAt
import Derived.Deep.OwnRows
import Derived.Laws.BytesArg
import Derived.Laws.Rows
import Derived.Laws.IdiomStrings
import Derived.Maps.OwnSet
import Derived.Maps.Views
import Derived.DeepKeys4
set_option linter.unusedVariables false
set_option linter.unusedSimpArgs false
section
namespace Go.Proofs.YtajhkncolbgkbaaDoor
open Go.RowKit
structure Bx (p:Prop):Prop where
 out:p
theorem ret_bool {a b:Bool} (h:a=b):Ending.returned (.bool a)=Ending.returned (.bool b):=by rw [h]
theorem cell_new (w:World) (v:Value) (t:TypeId):(w.alloc (.cells #[v] t)).cell? ⟨w.heap.size,0,none⟩=some v:=by
 simp
theorem size_setCell (w:World) (a:Addr) (u:Value):(w.setCell a u).heap.size=w.heap.size:=by simp [World.setCell]
theorem cells_new (w:World) (C:Array Value) (t:TypeId) (i:Nat) (v:Value) (h:C[i]? = some v):(w.alloc (.cells C t)).cell? ⟨w.heap.size,i,none⟩=some v:=by
 unfold World.cell?; rw [heap_alloc_new];simpa using h
theorem frozen_new (w:World) (C:Array Value) (t:TypeId) (i:Nat):(w.alloc (.cells C t)).frozen? ⟨w.heap.size,i,none⟩=false:=by
 unfold World.frozen?; rw [heap_alloc_new];simp
theorem le_alloc {B:Nat} {w:World} (h:B≤w.heap.size) (o:Obj):B≤(w.alloc o).heap.size:=by
 simp;omega
def Sl (w:World) (k:IntKind) (a:Option Addr) (xs:List Int):Prop :=
 ∀ i x,xs[i]? = some x → ∃ b off,a=some ⟨b,off,none⟩∧w.cell? ⟨b,off+i,none⟩=some (.int k x)
theorem Sl.nil (w:World) (k:IntKind) (a:Option Addr):Sl w k a []:=fun i x h=>by simp at h
theorem Sl.below {w w':World} {k:IntKind} {a:Option Addr} {xs:List Int} (h:Sl w k a xs) (hb:Below w.heap.size w w'):Sl w' k a xs:=by
 intro i x hx
 obtain ⟨b,off,rfl,hc⟩:=h i x hx
 exact ⟨b,off,rfl,cell_later hb hc⟩
theorem Sl.drewN {w:World} {k:IntKind} {a:Option Addr} {xs:List Int} (h:Sl w k a xs) (n:Nat):Sl (w.drewN n) k a xs:=h
theorem Sl.drew {w:World} {k:IntKind} {a:Option Addr} {xs:List Int} (h:Sl w k a xs):Sl w.drew k a xs:=h
@[simp,go_sem] theorem Sl.drewN_iff {w:World} {k:IntKind} {a:Option Addr} {xs:List Int} (n:Nat):Sl (w.drewN n) k a xs ↔ Sl w k a xs:=Iff.rfl
@[simp,go_sem] theorem Sl.drew_iff {w:World} {k:IntKind} {a:Option Addr} {xs:List Int}:Sl w.drew k a xs ↔ Sl w k a xs:=Iff.rfl
def Own (w:World) (B:Nat) (e:TypeId) (k:IntKind) (v:Value) (xs:List Int):Prop:=w.ownsRow B e 1 v xs.length (xs.map (Value.int k))
theorem Own.nil (w:World) (B:Nat) (e:TypeId) (k:IntKind):Own w B e k (.slice none 0 0) []:=World.ownsRow_nil w B e 1
theorem Own.form {w:World} {B:Nat} {e:TypeId} {k:IntKind} {v:Value} {xs:List Int} (h:Own w B e k v xs) :
 ∃ a cap,v = .slice a xs.length cap∧Sl w k a xs:=by
 rcases h.2 with ⟨rfl,hn⟩ | ⟨g,cap,cur,rfl,hb,hg,hnc,hcm,hcs,ht⟩
 · have hx:xs=[]:=List.eq_nil_of_length_eq_zero hn
   subst hx
   exact ⟨none,0,rfl,Sl.nil _ _ _⟩
 · refine ⟨_,cap,rfl,fun i x hx=>⟨g,0,rfl,?_⟩⟩
   have hi:i<xs.length:=(List.getElem?_eq_some_iff.1 hx).1
   have hcell:w.cell? ⟨g,i,none⟩=cur[i]? := by simp [World.cell?,hg]
   rw [Nat.zero_add,hcell]
   have h1:(xs.map (Value.int k))[i]? = some (.int k x):=by rw [List.getElem?_map,hx];rfl
   rw [←ht,List.getElem?_take,if_pos (by omega)] at h1
   simpa using h1
theorem Own.sl {w:World} {B:Nat} {e:TypeId} {k:IntKind} {a:Option Addr} {n c:Nat} {xs:List Int} (h:Own w B e k (.slice a n c) xs):Sl w k a xs:=by
 obtain ⟨a',c',he,hs⟩:=h.form
 injection he with h1 h2 h3
 subst h1;exact hs
theorem Own.lt {w:World} {B:Nat} {e:TypeId} {k:IntKind} {v:Value} {xs:List Int} (h:Own w B e k v xs) : ∀ g,v.ownBlock=some g→B≤g∧g<w.heap.size:=World.ownsRow.lt h
theorem Own.below {w w':World} {B:Nat} {e:TypeId} {k:IntKind} {v:Value} {xs:List Int} (h:Own w B e k v xs) (hb:Below w.heap.size w w'):Own w' B e k v xs :=
 World.ownsRow.kept (row:=none) h ⟨hb.os,hb.tape,hb.output,hb.size,fun i hi _=>hb.block i hi⟩ (by cases v.ownBlock <;> simp)
theorem Own.alloc {w:World} {B:Nat} {e:TypeId} {k:IntKind} {v:Value} {xs:List Int} (h:Own w B e k v xs) (o:Obj):Own (w.alloc o) B e k v xs:=World.ownsRow.alloc h o
theorem Own.base {w:World} {B B':Nat} {e:TypeId} {k:IntKind} {v:Value} {xs:List Int} (h:Own w B e k v xs) (hB:B'≤B):Own w B' e k v xs:=by
 refine ⟨h.1,h.2.imp id ?_⟩
 rintro ⟨g,cap,cur,h1,h2,h3⟩
 exact ⟨g,cap,cur,h1,Nat.le_trans hB h2,h3⟩
theorem Own.drew {w:World} {B:Nat} {e:TypeId} {k:IntKind} {v:Value} {xs:List Int} (h:Own w B e k v xs):Own w.drew B e k v xs:=h
theorem Own.drewN {w:World} {B:Nat} {e:TypeId} {k:IntKind} {v:Value} {xs:List Int} (h:Own w B e k v xs) (n:Nat):Own (w.drewN n) B e k v xs:=h
theorem Own.grown {w w':World} {B:Nat} {e:TypeId} {k:IntKind} {v:Value} {xs:List Int} (h:Own w B e k v xs) {row:Option Nat} (hg:w.grownBy w' row) (hne:v.ownBlock=none∨v.ownBlock ≠ row):Own w' B e k v xs :=
 World.ownsRow.kept h hg hne
theorem wpList_append_int {P:Program} {w:World} {ops:Array Oper} {rest:List Oper} {o:Oper} {a:Act} {Q:Exit→Act→World→Prop} (hgd:o.guard=none) (s x:Operand) (t:TypeId)
 (ho:o.op = .call { callee:=.builtin .append,args:=#[s,x],argTypes:=#[t,t] })
 (e:TypeId) (k:IntKind) (z:Value) (bytes:Nat) (hbz:bytes≤8) (ht:P.underlying t=some (.slice e))
 (hi:(P.info? e).map (fun i=>(i.zero,i.size,i.bytes))=some (some z,1,bytes)) (hzs:z.cells.size=1)
 (B:Nat) (v:Value) (xs:List Int) (hs:a.eval s=v) (hown:Own w B e k v xs) (n:Int)
 (ad:Addr) (c:Nat) (hx:a.eval x = .slice (some ad) 1 c) (hcell:w.cell? ad=some (.int k n)) (hlen:xs.length≤1000000000) (hbase:B≤w.heap.size)
 (h : ∀ v' w',Own w' B e k v' (xs++[n])→w.grownBy w' v.ownBlock→(v'.ownBlock=v.ownBlock∨v'.ownBlock=some w.heap.size)→wpList P ops Q rest (a.put o.dst v') w') :
 wpList P ops Q (o::rest) a w:=by
 obtain ⟨i0,hi0,hz0,hz1,hz2⟩:=info_parts hi
 refine wpList_plain hgd fun K hK=>?_
 have hnews : ∀ j u,[Value.int k n][j]? = some u→w.cell? (ad.add j)=some u:=by
  intro j u hu
  match j with
  | 0=>simp at hu;subst hu;simpa [Addr.add] using hcell
  | j+1=>simp at hu
 obtain ⟨v',w',hr,h2,h3,_,h4⟩:=run_append_own_at (P:=P) w B t o.type e i0 z 1 bytes ht hi0 hz0 hz1 hz2 hzs (by omega) v xs.length _ hown ad 1 c [Value.int k n] rfl hnews (by simp [Value.oneCell'])
  (by simp only [maxLen];omega) (by have:(xs.length+1) * bytes≤(xs.length+1) * 8:=Nat.mul_le_mul_left _ hbz;omega) hbase
 unfold Oper.wp execOp
 simp only [ho,resolve,invoke,builtin,Sem.run_bind,Sem.run_pure,Result.andThen_ok,List.map_toArray,List.map_cons,List.map_nil,hs,hx,hr]
 exact hK _ _ (h v' w' (by unfold Own;simpa using h2) h3 h4)
theorem Own.ofRow {w:World} {B b:Nat} {e:TypeId} {k:IntKind} {n:Nat} {F:Nat→Int} {xs:List Int} (h:w.rowIs b e n (fun j=>.int k (F j))) (hb:B≤b) (hn:n≤maxLen) (hx:xs=(List.range n).map F) :
 Own w B e k (.slice (some ⟨b,0,none⟩) n n) xs:=by
 subst hx
 obtain ⟨c,hc,hcs,hg⟩:=h
 refine ⟨by simp,.inr ⟨b,n,c,by simp,hb,hc,by simp,hn,by simp [hcs],?_⟩⟩
 apply List.ext_getElem?
 intro i
 simp only [List.length_map,List.length_range,Nat.mul_one,List.getElem?_take,List.getElem?_map,List.map_map]
 by_cases hi:i<n
 · have:=hg i hi
   simp [hi]
   exact this
 · simp [hi]
theorem Own.at {w:World} {B:Nat} {e:TypeId} {k:IntKind} {v:Value} {xs:List Int} (h:Own w B e k v xs) (hne:0<xs.length) :
 ∃ g cap, v = .slice (some ⟨g, 0, none⟩) xs.length cap ∧ B ≤ g ∧ g < w.heap.size ∧ (∀ i x, xs[i]? = some x → w.cell? ⟨g, i, none⟩ = some (.int k x)) ∧ (∀ i, w.frozen? ⟨g, i, none⟩ = false) ∧
   ∀ i x,Own (w.setCell ⟨g,i,none⟩ (.int k x)) B e k (.slice (some ⟨g,0,none⟩) xs.length cap) (xs.set i x):=by
 obtain ⟨a,cap,rfl,hsl⟩:=h.form
 rcases h.2 with ⟨hv,hn⟩ | ⟨g,cap',cur,hv,hb,hg,hrest⟩
 · omega
 · injection hv with h1 h2 h3
   subst h1 h3
   refine ⟨g,cap,rfl,hb,(Array.getElem?_eq_some_iff.1 hg).1,fun i x hx=>?_,fun i=>World.ownsRow.frozenAt h i,fun i x=>?_⟩
   · obtain ⟨b,off,hbo,hc⟩:=hsl i x hx
     simp only [Option.some.injEq,Addr.mk.injEq] at hbo
     obtain ⟨rfl,rfl,_⟩:=hbo
     simpa using hc
   · have:=World.ownsRow.stored h i (.int k x)
     unfold Own
     rw [List.length_set,List.map_set];exact this.1
theorem Own.lit (w:World) (B:Nat) (e:TypeId) (k:IntKind) (cs:Array Value) (xs:List Int) (n:Nat) (hb:B≤w.heap.size) (hn:n≤maxLen) (hx:xs.length=n) (h:cs=(xs.map (Value.int k)).toArray) :
 Own (w.alloc (.cells cs e)) B e k (.slice (some ⟨w.heap.size,0,none⟩) n n) xs:=by
 subst h hx
 have:=World.ownsRow_lit (e:=e) (size:=1) w (xs.map (Value.int k)).toArray xs.length hb hn (by simp)
 simpa [Own] using this
theorem conv_str {P:Program} {w:World} (src e dst:TypeId) (hs:P.underlying src=some (.slice e)) (he:P.underlying e=some (.int .u8)) (hd:P.underlying dst=some .string) {a:Option Addr} {xs:List Int} (h:Sl w .u8 a xs) (n cap:Nat) (hn:n=xs.length) :
 (convert src dst (.slice a n cap)).run P w = .ok (.string (strOfNums xs)) w:=by
 subst hn
 cases xs with
 | nil =>
   cases a with
   | none=>exact run_convert_bytes_nil w src e hs he _ _ dst hd
   | some a =>
     have:=run_convert_bytes_string (P:=P) w src dst e (some a) 0 cap hs he hd
     simp only [List.length_nil]
     rw [this,run_bytesToString w a 0 cap [] (by simp [loadCells,loadCellsFrom])]
     rfl
 | cons x l =>
   obtain ⟨b,off,rfl,h0⟩:=h 0 x rfl
   refine run_convert_bytes_arg w src e hs he b off _ cap (x::l) rfl (fun i hi=>?_) dst hd
   obtain ⟨b',off',e',hc⟩:=h i _ (List.getElem?_eq_getElem hi)
   simp only [Option.some.injEq,Addr.mk.injEq] at e'
   obtain ⟨rfl,rfl,_⟩:=e'
   rw [hc];simp [List.getD,List.getElem?_eq_getElem hi]
def Bk (w:World) (g:Nat) (cs:Array Value) (t:TypeId):Prop:=w.heap[g]? = some (.cells cs t (0,0))
theorem blk_new (w:World) (o:Obj) (n:Nat) (h:n=w.heap.size):(w.alloc o).heap[n]? = some o:=by subst h;exact heap_alloc_new w o
theorem blk_old {w:World} {o x:Obj} {n:Nat} (h:w.heap[n]? = some x):(w.alloc o).heap[n]? = some x:=by
 rw [Below.heap_alloc w o n (Array.getElem?_eq_some_iff.1 h).1];exact h
theorem Bk.lt {w:World} {g:Nat} {cs:Array Value} {t:TypeId} (h:Bk w g cs t):g<w.heap.size:=(Array.getElem?_eq_some_iff.1 h).1
theorem Bk.cell {w:World} {g:Nat} {cs:Array Value} {t:TypeId} (h:Bk w g cs t) (j:Nat) {v:Value} (hv:cs[j]? = some v):w.cell? ⟨g,j,none⟩=some v:=by
 rw [cell_of_row w g j cs t (0,0) h];exact hv
theorem Bk.frozen {w:World} {g:Nat} {cs:Array Value} {t:TypeId} (h:Bk w g cs t) (j:Nat):w.frozen? ⟨g,j,none⟩=false:=frozen_of_row w g j cs t h
theorem Bk.later {w w':World} {g:Nat} {cs:Array Value} {t:TypeId} (h:Bk w g cs t) (hb:Below w.heap.size w w'):Bk w' g cs t:=by
 unfold Bk;rw [hb.block g h.lt];exact h
theorem Bk.new (w:World) (cs:Array Value) (t:TypeId):Bk (w.alloc (.cells cs t)) w.heap.size cs t:=heap_alloc_new w _
theorem Bk.alloc {w:World} {g:Nat} {cs:Array Value} {t:TypeId} (h:Bk w g cs t) (o:Obj):Bk (w.alloc o) g cs t:=blk_old h
theorem Bk.drew {w:World} {g:Nat} {cs:Array Value} {t:TypeId} (h:Bk w g cs t):Bk w.drew g cs t:=h
theorem Bk.set {w:World} {g:Nat} {cs:Array Value} {t:TypeId} (h:Bk w g cs t) (j:Nat) (v:Value):Bk (w.setCell ⟨g,j,none⟩ v) g (cs.setIfInBounds j v) t:=heap_setCell_same w g j cs t v h
theorem Bk.other {w:World} {g:Nat} {cs:Array Value} {t:TypeId} (h:Bk w g cs t) (a:Addr) (v:Value) (hne:g ≠ a.block):Bk (w.setCell a v) g cs t:=by
 unfold Bk;rw [heap_setCell_other w a g v hne];exact h
end Go.Proofs.YtajhkncolbgkbaaDoor
end
section
namespace Go.Proofs.YtajhkncolbgkbaaDoor
def crcP:Nat:=3988292384
def crcS (c:Nat):Nat:=if c % 2=1 then (c / 2) ^^^ crcP else c / 2
def crcR:Nat→Nat→Nat
 | 0,c=>c
 | k+1,c=>crcR k (crcS c)
def crcB (c:Nat) (x:Int):Nat:=crcR 8 (c ^^^ x.toNat)
def crcT (l:List Int) (c:Nat):Nat:=l.foldl crcB c
def crcV (l:List Int):Nat:=crcT l 4294967295 ^^^ 4294967295
theorem crcS_lt {c:Nat} (h:c<2 ^ 32):crcS c<2 ^ 32:=by
 unfold crcS
 split
 · exact Nat.xor_lt_two_pow (by omega) (by decide)
 · omega
theorem crcR_lt : ∀ (k:Nat) {c:Nat},c<2 ^ 32→crcR k c<2 ^ 32
 | 0,_,h=>h
 | k+1,_,h=>crcR_lt k (crcS_lt h)
def Byts (l:List Int):Prop := ∀ x∈l,0≤x∧x≤255
theorem crcB_lt {c:Nat} (h:c<2 ^ 32) {x:Int} (hx:0≤x∧x≤255):crcB c x<2 ^ 32:=crcR_lt 8 (Nat.xor_lt_two_pow h (by omega))
theorem crcT_lt : ∀ {l:List Int},Byts l → ∀ {c:Nat},c<2 ^ 32→crcT l c<2 ^ 32
 | [],_,_,h=>h
 | x :: l, hl, _, h => by
   unfold crcT
   rw [List.foldl_cons]
   exact crcT_lt (l:=l) (fun y hy=>hl y (by simp [hy])) (crcB_lt h (hl x (by simp)))
theorem crcT_app (l m:List Int) (c:Nat):crcT (l++m) c=crcT m (crcT l c):=List.foldl_append ..
end Go.Proofs.YtajhkncolbgkbaaDoor
end
section
namespace Go.Proofs.YtajhkncolbgkbaaDoor
def fourP (n:Nat):List Int:=[((n % 256:Nat):Int),((n / 256 % 256:Nat):Int),((n / 65536 % 256:Nat):Int),((n / 16777216 % 256:Nat):Int)]
theorem four_len (n:Nat):(fourP n).length=4:=rfl
theorem byts_four (n:Nat):Byts (fourP n):=by
 intro x hx
 simp only [fourP,List.mem_cons,List.not_mem_nil,or_false] at hx
 rcases hx with rfl | rfl | rfl | rfl <;> omega
def numP (l:List Int):Nat:=(l.getD 0 0).toNat+256 * (l.getD 1 0).toNat+65536 * (l.getD 2 0).toNat+16777216 * (l.getD 3 0).toNat
theorem num_four {n:Nat} (h:n<2 ^ 32) (r:List Int):numP (fourP n++r)=n:=by
 simp only [numP,fourP,List.cons_append,List.nil_append,List.getD_cons_zero,List.getD_cons_succ]
 omega
theorem num_lt {l:List Int} (hb:Byts l):numP l<2 ^ 32:=by
 have key : ∀ i,0≤l.getD i 0∧l.getD i 0≤255:=fun i=>by
  rw [List.getD_eq_getElem?_getD]
  cases h:l[i]? with
  | none=>simp
  | some x=>exact hb x (List.mem_of_getElem? h)
 have h0:=key 0
 have h1:=key 1
 have h2:=key 2
 have h3:=key 3
 unfold numP
 omega
def sealP (n:Nat) (data:List Int):List Int:=fourP n++data++fourP (crcV (fourP n++data))++fourP n
def zerosP (n:Nat):List Int:=List.replicate n 0
def goodP (l:List Int):Prop:=l.length=128∧(l=zerosP 128∨(1≤numP l∧numP l≤2 ^ 30∧l=sealP (numP l) ((l.drop 4).take 116)))
theorem seal_len {n:Nat} {data:List Int} (h:data.length=116):(sealP n data).length=128:=by simp [sealP,four_len,h]
theorem seal_num {n:Nat} (hn:n<2 ^ 32) (data:List Int):numP (sealP n data)=n:=by
 unfold sealP
 rw [List.append_assoc,List.append_assoc]
 exact num_four hn _
theorem seal_data {n:Nat} {data:List Int} (h:data.length=116):((sealP n data).drop 4).take 116=data:=by
 unfold sealP
 rw [List.append_assoc,List.append_assoc,List.drop_append_of_le_length (by simp [four_len]),List.drop_of_length_le (by simp [four_len]),List.nil_append,List.take_append_of_le_length (by omega),List.take_of_length_le (by omega)]
theorem seal_good {n:Nat} (h1:1≤n) (h2:n≤2 ^ 30) {data:List Int} (h:data.length=116):goodP (sealP n data):=by
 refine ⟨seal_len h,.inr ?_⟩
 rw [seal_num (by omega),seal_data h]
 exact ⟨h1,h2,rfl⟩
theorem byts_seal {n:Nat} {data:List Int} (h:Byts data):Byts (sealP n data):=by
 intro x hx
 simp only [sealP,List.mem_append] at hx
 rcases hx with ((hx | hx) | hx) | hx
 · exact byts_four _ x hx
 · exact h x hx
 · exact byts_four _ x hx
 · exact byts_four _ x hx
end Go.Proofs.YtajhkncolbgkbaaDoor
end
section
namespace Go.Proofs.YtajhkncolbgkbaaDoor
open Go.RowKit
def Byt (t:List Int):Prop := ∀ x∈t,0≤x∧x≤255
def bs (s:ByteArray):List Int:=s.data.toList.map fun b=>(b.toNat:Int)
theorem str_bs (s:ByteArray):strOfNums (bs s)=s:=by
 apply ByteArray.ext
 apply Array.ext'
 simp [strOfNums,bs,Function.comp_def]
theorem bs_byt (s:ByteArray):Byt (bs s):=by
 intro x hx
 obtain ⟨b,_,rfl⟩:=List.mem_map.1 hx
 have:=b.toNat_lt
 omega
theorem bs_length (s:ByteArray):(bs s).length=s.size:=by unfold bs;rw [List.length_map,Array.length_toList];rfl
theorem bs_str {t:List Int} (h:Byt t):bs (strOfNums t)=t:=by
 unfold bs
 rw [strOfNums_data,List.map_map]
 conv=>rhs;rw [←List.map_id t]
 apply List.map_congr_left
 intro x hx
 have:=h x hx
 simp [UInt8.toNat_ofNat']
 omega
theorem Byt.drop {t:List Int} (h:Byt t) (k:Nat):Byt (t.drop k):=fun x hx=>h x (List.mem_of_mem_drop hx)
theorem Byt.take {t:List Int} (h:Byt t) (k:Nat):Byt (t.take k):=fun x hx=>h x (List.mem_of_mem_take hx)
theorem Byt.append {t u:List Int} (h:Byt t) (h':Byt u):Byt (t++u):=fun x hx=>by
 rcases List.mem_append.1 hx with h1 | h1
 · exact h x h1
 · exact h' x h1
theorem Byt.get {t:List Int} (h:Byt t) {k:Nat} {x:Int} (hx:t[k]? = some x):0≤x∧x≤255:=h x (List.mem_of_getElem? hx)
theorem str_append (t u:List Int):strOfNums t++strOfNums u=strOfNums (t++u):=by
 apply ByteArray.ext
 simp [strOfNums]
theorem str_extract (t:List Int) (a b:Nat):(strOfNums t).extract a b=strOfNums ((t.drop a).take (b - a)):=by
 unfold strOfNums
 rw [ByteArray.extract_mk,←List.map_drop,←List.map_take]
theorem str_get {t:List Int} (h:Byt t) {k:Nat} {x:Int} (hx:t[k]? = some x) : ∃ hk:k<(strOfNums t).size,(((strOfNums t)[k]'hk).toNat:Int)=x:=by
 obtain ⟨hk,rfl⟩:=List.getElem?_eq_some_iff.1 hx
 refine ⟨by rw [strOfNums_size];exact hk,?_⟩
 have h1:=h _ (List.getElem_mem hk)
 show (((strOfNums t).data[k]'_).toNat:Int)=t[k]
 simp [strOfNums,UInt8.toNat_ofNat']
 omega
theorem idx_str {P:Program} (T:TypeId) (hu:P.underlying T=some .string) {t:List Int} (hb:Byt t) {k:Nat} {x:Int} (h:t[k]? = some x) (w:World) :
 (Instr.index T (.string (strOfNums t)) (.int .i64 (k:Int))).run P w = .ok (.int .u8 x) w:=by
 obtain ⟨hk,hx⟩:=str_get hb h
 rw [run_index_string w T _ _ _ hu,dif_pos ⟨by omega,by omega⟩]
 simp only [Int.toNat_natCast]
 rw [hx]
theorem bytes_of_str {P:Program} (src dst e:TypeId) (hs:P.underlying src=some .string) (hd:P.underlying dst=some (.slice e)) (he:P.underlying e=some (.int .u8)) {t:List Int} (hb:Byt t) (w:World) :
 ∃ c W,(convert src dst (.string (strOfNums t))).run P w = .ok (.slice (some ⟨w.heap.size,0,none⟩) t.length c) W∧Sl W .u8 (some ⟨w.heap.size,0,none⟩) t∧Below w.heap.size w W:=by
 have h:=run_bytes_of_string (P:=P) w src dst e (strOfNums t) hs hd he
 rw [strOfNums_size] at h
 refine ⟨_,_,h,fun i x hx=>⟨_,0,rfl,?_⟩,(Below.refl _ _).drew.alloc (Nat.le_refl _) _⟩
 obtain ⟨hk,hv⟩:=str_get hb hx
 have:=World.cell?_alloc_mark w.drew (bytesRow (strOfNums t) (grownCap w t.length 0 e)) e ((bytesRow (strOfNums t) (grownCap w t.length 0 e)).size,(bytesRow (strOfNums t) (grownCap w t.length 0 e)).size+1) i
 rw [Nat.zero_add]
 refine Eq.trans this ?_
 have h2:=bytesRow_at (strOfNums t) (grownCap w t.length 0 e) i hk
 rw [←hv];exact h2
end Go.Proofs.YtajhkncolbgkbaaDoor
end
section
namespace Go.Proofs.YtajhkncolbgkbaaDoor
abbrev Pg:=List Int × Option (List Int)
structure Dk where
 p:List Pg
 off:Bool
 trip:Int
def zer:List Int:=List.replicate 128 0
def PgOk (x:Pg):Prop:=x.1.length=128∧Byt x.1 ∧ ∀ n,x.2=some n→n.length=128∧Byt n
structure DkOk (d:Dk):Prop where
 pages : ∀ x∈d.p,PgOk x
 lo : -1≤d.trip
 hi:d.trip≤9223372036854775807
 few:d.p.length≤120
theorem byt_zer:Byt zer:=fun x hx=>by unfold zer at hx;rw [List.mem_replicate] at hx;omega
theorem zer_len:zer.length=128:=List.length_replicate ..
def Pg.now (x:Pg):List Int:=x.2.getD x.1
theorem PgOk.now {x:Pg} (h:PgOk x):x.now.length=128∧Byt x.now:=by
 obtain ⟨a,b⟩:=x
 cases b with
 | none=>exact ⟨h.1,h.2.1⟩
 | some n=>exact h.2.2 n rfl
def Pg.settle (c:Nat) (x:Pg):Pg:=match x.2 with
 | none=>x
 | some n=>(n.take c++x.1.drop c,none)
theorem PgOk.settle {x:Pg} (h:PgOk x) (c:Nat):PgOk (x.settle c):=by
 obtain ⟨a,b⟩:=x
 cases b with
 | none=>exact h
 | some n =>
   obtain ⟨h1,h2,h3⟩:=h
   obtain ⟨h4,h5⟩:=h3 n rfl
   refine ⟨?_,?_,fun n hn=>by cases hn⟩
   · simp only [Pg.settle,List.length_append,List.length_take,List.length_drop]
     simp only at h1
     omega
   · exact (h5.take c).append (h2.drop c)
def isPend (p:List Pg) (i:Nat):Bool:=(p[i]?.bind (·.2)).isSome
def Dk.is (d:Dk) (i:Int):Bool:=decide (0≤i) && decide (i<d.p.length)
def Dk.step (d:Dk):Dk × Bool :=
 if d.trip=0 then ({ d with off:=true },false) else if 0<d.trip then ({ d with trip:=d.trip - 1 },true) else (d,true)
def mkDk (pages:Nat):Dk:=⟨List.replicate pages (zer,none),false,-1⟩
def eDown:Int:=20
def eArg:Int:=1
def Dk.read (d:Dk) (i:Int):List Int × Int :=
 if d.off=true then ([],eDown) else if d.is i=false then ([],eArg) else ((d.p[i.toNat]?.map Pg.now).getD [],0)
def put (old:List Int) (at_:Nat) (s:List Int):List Int:=old.take at_++s++old.drop (at_+s.length)
def Dk.write (d:Dk) (i at_:Int) (s:List Int):Dk × Int :=
 if d.off=true then (d,eDown) else if (d.is i && decide (0≤at_) && decide (at_≤128) && decide ((s.length:Int)≤128 - at_))=false then (d,eArg)
 else if d.step.2=false then (d.step.1,eDown)
 else ({ d.step.1 with p:=d.p.modify i.toNat fun x=>(x.1,some (put x.now at_.toNat s)) },0)
def Dk.flush (d:Dk):Dk × Int :=
 if d.off=true then (d,eDown) else if d.step.2=false then (d.step.1,eDown) else ({ d.step.1 with p:=d.p.map fun x=>(x.now,none) },0)
def Dk.image (d:Dk):List (List Int):=d.p.map (·.1)
end Go.Proofs.YtajhkncolbgkbaaDoor
end
section
namespace Go.Proofs.YtajhkncolbgkbaaDoor
instance (l:List Int):Decidable (goodP l):=by unfold goodP;infer_instance
def numOf (l:List Int):Nat:=if goodP l then numP l else 0
def dataP (l:List Int):List Int:=(l.drop 4).take 116
inductive DOp where
 | w (page:Nat) (s:List Int)
 | f
def Dk.op (d:Dk):DOp→Dk × Int
 | .w i s=>d.write i 0 s
 | .f=>d.flush
def Dk.run (d:Dk):List DOp→Dk × Int
 | []=>(d,0)
 | o::l=>if (d.op o).2=0 then (d.op o).1.run l else d.op o
def recP (l:List Nat):List Int:=(((l.length % 256:Nat):Int)::l.flatMap fun x=>[((x % 256:Nat):Int),((x / 256 % 256:Nat):Int)])++zerosP (115 - 2 * l.length)
theorem rec_len {l:List Nat} (h:l.length≤57):(recP l).length=116:=by
 have : ∀ l:List Nat,(l.flatMap fun x=>[((x % 256:Nat):Int),((x / 256 % 256:Nat):Int)]).length=2 * l.length:=by
  intro l
  induction l with
  | nil=>rfl
  | cons x l ih=>rw [List.flatMap_cons,List.length_append,ih,List.length_cons];simp only [List.length_cons,List.length_nil];omega
 unfold recP zerosP
 rw [List.length_append,List.length_cons,this,List.length_replicate]
 omega
theorem rec_byts (l:List Nat):Byts (recP l):=by
 intro x hx
 simp only [recP,zerosP,List.cons_append,List.mem_cons,List.mem_append,List.mem_flatMap,List.mem_replicate] at hx
 rcases hx with rfl | ⟨y,_,rfl | rfl | h⟩ | ⟨_,rfl⟩
 · omega
 · omega
 · omega
 · cases h
 · omega
def word2 (data:List Int) (j:Nat):Nat:=(data.getD (1+2 * j) 0).toNat+256 * (data.getD (2+2 * j) 0).toNat
theorem rec_word {l:List Nat} (hl : ∀ x∈l,x<65536) {j:Nat} {x:Nat} (h:l[j]? = some x):word2 (recP l) j=x:=by
 have key : ∀ (l:List Nat) (r:List Int) (j x:Nat),(∀ x∈l,x<65536)→l[j]? = some x→((l.flatMap fun x=>[((x % 256:Nat):Int),((x / 256 % 256:Nat):Int)])++r).getD (2 * j) 0=((x % 256:Nat):Int)∧((l.flatMap fun x=>[((x % 256:Nat):Int),((x / 256 % 256:Nat):Int)])++r).getD (2 * j+1) 0=((x / 256 % 256:Nat):Int):=by
  intro l
  induction l with
  | nil=>intro r j x _ h;simp at h
  | cons y l ih =>
    intro r j x hl h
    cases j with
    | zero =>
      obtain rfl:y=x:=by simpa using h
      exact ⟨rfl,rfl⟩
    | succ j =>
      have:=ih r j x (fun z hz=>hl z (List.mem_cons_of_mem _ hz)) (by simpa using h)
      rw [List.flatMap_cons,show 2 * (j+1)=2 * j+1+1 by omega]
      simp only [List.cons_append,List.nil_append,List.getD_cons_succ]
      exact this
 have hx:=hl x (List.mem_of_getElem? h)
 obtain ⟨h1,h2⟩:=key l (zerosP (115 - 2 * l.length)) j x hl h
 unfold word2 recP
 rw [show 1+2 * j=2 * j+1 by omega,show 2+2 * j=2 * j+1+1 by omega]
 simp only [List.cons_append,List.getD_cons_succ]
 rw [h1,h2]
 omega
def tgGo (image:List (List Int)) (t:Nat) (data:List Int):Nat→Option (List Nat)
 | 0=>some []
 | j + 1 => match tgGo image t data j with
   | none=>none
   | some l=>if goodP (image.getD (1+j) [])∧numP (image.getD (1+j) [])=t∧word2 data j+17<image.length∧(0<j→l.getD (j - 1) 0<word2 data j) then some (l++[word2 data j]) else none
def logK (image:List (List Int)):Nat:=if goodP (image.getD 0 []) then ((dataP (image.getD 0 [])).getD 0 0).toNat else 0
def targetsP (image:List (List Int)):List Nat :=
 if numOf (image.getD 0 [])=0∨logK image<1∨16<logK image then [] else match tgGo image (numOf (image.getD 0 [])) (dataP (image.getD 0 [])) (logK image) with
 | none=>[]
 | some l=>if recP l=dataP (image.getD 0 []) then l else []
theorem tg_len {image:List (List Int)} {t:Nat} {data:List Int} : ∀ {k:Nat} {l:List Nat},tgGo image t data k=some l→l.length=k
 | 0,l,h=>by simp only [tgGo,Option.some.injEq] at h;subst h;rfl
 | k + 1, l, h => by
   unfold tgGo at h
   cases h1:tgGo image t data k with
   | none=>rw [h1] at h;cases h
   | some m =>
     rw [h1] at h
     simp only at h
     split at h
     · simp only [Option.some.injEq] at h;subst h
       rw [List.length_append,tg_len h1];rfl
     · cases h
theorem tg_some {image:List (List Int)} {t:Nat} {data:List Int} {l:List Nat} (hw : ∀ j x,l[j]? = some x→word2 data j=x) (hg : ∀ j,j<l.length→goodP (image.getD (1+j) [])∧numP (image.getD (1+j) [])=t) (hi : ∀ x∈l,x+17<image.length) (hs:l.Pairwise (· < ·)) : ∀ k,k≤l.length→tgGo image t data k=some (l.take k)
 | 0,_=>rfl
 | k + 1, hk => by
   have h1:=tg_some hw hg hi hs k (by omega)
   have hkl:k<l.length:=by omega
   have hx:=hw k l[k] (List.getElem?_eq_getElem hkl)
   unfold tgGo
   rw [h1]
   simp only
   have hlt:0<k→(l.take k).getD (k - 1) 0<word2 data k:=fun h0=>by
    rw [hx,List.getD_eq_getElem?_getD,List.getElem?_take,if_pos (by omega),List.getElem?_eq_getElem (by omega)]
    exact List.pairwise_iff_getElem.1 hs (k - 1) k (by omega) hkl (by omega)
   rw [if_pos ⟨(hg k hkl).1,(hg k hkl).2,by rw [hx];exact hi _ (List.getElem_mem hkl),hlt⟩,hx,List.take_succ_eq_append_getElem hkl]
def replayP (image:List (List Int)):List DOp:=((targetsP image).mapIdx fun j x=>DOp.w (17+x) (image.getD (1+j) []))++(if targetsP image=[] then [] else [.f])
def stepsP (t:Nat) (l:List (Nat × List Int)):List DOp :=
 (l.mapIdx fun j x=>DOp.w (1+j) (sealP t x.2))++DOp.w 0 (sealP t (recP (l.map (·.1)))) :: .f::(l.map fun x=>DOp.w (17+x.1) (sealP t x.2))++[.f]
structure Pgs where
 d:Dk
 number:Nat
 bad:List Nat
 closed:Bool
def Pgs.check (s:Pgs) (l:List (Int × List Int)):Int :=
 if s.closed=true then 20
 else if 16<l.length∨1073741824≤s.number then 2
 else if l=[] then 1
 else if (∀ x∈l,0≤x.1∧x.1+17<s.d.p.length∧x.2.length=116)∧(l.map (·.1)).Pairwise (· < ·) then 0 else 1
end Go.Proofs.YtajhkncolbgkbaaDoor
end
section
namespace Go.Proofs.YtajhkncolbgkbaaDoor
open Go.RowKit Go.Maps
theorem strCells : Tryd.prog.cellsOf 9=1:=by kernel_rfl
end Go.Proofs.YtajhkncolbgkbaaDoor
end
section
namespace Go.Proofs.YtajhkncolbgkbaaDoor
structure Pt where
 x:Int
 y:Int
 z:Int
deriving DecidableEq
structure Box where
 lo:Pt
 hi:Pt
deriving DecidableEq
def Pt.zero:Pt:=⟨0,0,0⟩
def Box.zero:Box:=⟨Pt.zero,Pt.zero⟩
def Pt.add (p q:Pt):Pt:=⟨p.x+q.x,p.y+q.y,p.z+q.z⟩
def Pt.sub (p q:Pt):Pt:=⟨p.x - q.x,p.y - q.y,p.z - q.z⟩
def inB (p:Pt) (b:Box):Bool:=decide (b.lo.x≤p.x∧p.x<b.hi.x∧b.lo.y≤p.y∧p.y<b.hi.y∧b.lo.z≤p.z∧p.z<b.hi.z)
def emptyB (b:Box):Bool := !inB b.lo b
def sizeB (b:Box):Pt:=if emptyB b=true then Pt.zero else b.hi.sub b.lo
def volB (b:Box):Int:=(sizeB b).x * (sizeB b).y * (sizeB b).z
def indexB (b:Box) (p:Pt):Int:=if inB p b=true then ((p.z - b.lo.z) * (sizeB b).y+(p.y - b.lo.y)) * (sizeB b).x+(p.x - b.lo.x) else -1
def atB (b:Box) (i:Int):Pt:=if 0≤i∧i<volB b then ⟨b.lo.x+i % (sizeB b).x,b.lo.y+i / (sizeB b).x % (sizeB b).y,b.lo.z+i / (sizeB b).x / (sizeB b).y⟩ else Pt.zero
structure Small (b:Box) (m:Int):Prop where
 lx : -m≤b.lo.x
 ly : -m≤b.lo.y
 lz : -m≤b.lo.z
 hx:b.hi.x≤m
 hy:b.hi.y≤m
 hz:b.hi.z≤m
theorem inB_iff {p:Pt} {b:Box}:inB p b=true ↔ b.lo.x≤p.x∧p.x<b.hi.x∧b.lo.y≤p.y∧p.y<b.hi.y∧b.lo.z≤p.z∧p.z<b.hi.z:=by simp [inB]
theorem emptyB_iff {b:Box}:emptyB b=false ↔ b.lo.x<b.hi.x∧b.lo.y<b.hi.y∧b.lo.z<b.hi.z:=by simp [emptyB,inB]
theorem sizeB_full {b:Box} (h:emptyB b=false):sizeB b=b.hi.sub b.lo:=by simp [sizeB,h]
theorem in_not_empty {p:Pt} {b:Box} (h:inB p b=true):emptyB b=false:=by
 have:=inB_iff.1 h
 rw [emptyB_iff];omega
theorem indexB_bd {p:Pt} {b:Box} (h:inB p b=true):0≤indexB b p∧indexB b p<volB b:=by
 have he:=in_not_empty h
 have h':=inB_iff.1 h
 unfold indexB volB
 rw [if_pos h,sizeB_full he]
 simp only [Pt.sub]
 generalize hx:p.x - b.lo.x=dx
 generalize hy:p.y - b.lo.y=dy
 generalize hz:p.z - b.lo.z=dz
 generalize hsx:b.hi.x - b.lo.x=sx
 generalize hsy:b.hi.y - b.lo.y=sy
 generalize hsz:b.hi.z - b.lo.z=sz
 have a1:0≤dx:=by omega
 have a2:dx+1≤sx:=by omega
 have a3:0≤dy:=by omega
 have a4:dy+1≤sy:=by omega
 have a5:0≤dz:=by omega
 have a6:dz+1≤sz:=by omega
 have b1:0≤dz * sy:=Int.mul_nonneg a5 (by omega)
 have b2:dz * sy+sy≤sz * sy:=by
  have:=Int.mul_le_mul_of_nonneg_right a6 (show 0≤sy by omega)
  rw [Int.add_mul,Int.one_mul] at this;exact this
 have b3:0≤(dz * sy+dy) * sx:=Int.mul_nonneg (by omega) (by omega)
 have b4:(dz * sy+dy+1) * sx≤sz * sy * sx:=Int.mul_le_mul_of_nonneg_right (by omega) (by omega)
 rw [Int.add_mul,Int.one_mul] at b4
 have b5:sx * sy * sz=sz * sy * sx:=by rw [Int.mul_comm sx sy,Int.mul_comm (sy * sx) sz,Int.mul_assoc]
 omega
end Go.Proofs.YtajhkncolbgkbaaDoor
end
section
namespace Go.Proofs.YtajhkncolbgkbaaDoor
namespace Oct
inductive Tr where
 | uni (c:Int)
 | brick (l:List Int)
 | node (d:Nat) (ch:Fin 8→Tr)
namespace Tr
open Classical in
noncomputable def mkInner (d:Nat) (ch:Fin 8→Tr):Tr:=if (∃ c,ch 0 = .uni c) ∧ ∀ i,ch i=ch 0 then ch 0 else .node d ch
def mkBrick (l:List Int):Tr:=if ∀ x∈l,x=l.headD 0 then .uni (l.headD 0) else .brick l
def cor (a:Pt) (n:Nat) (i:Nat):Pt:=⟨a.x+(i % 2:Nat) * 2 ^ (n+2),a.y+(i / 2 % 2:Nat) * 2 ^ (n+2),a.z+(i / 4:Nat) * 2 ^ (n+2)⟩
def cellAt (a:Pt) (k:Nat):Pt:=⟨a.x+(k % 4:Nat),a.y+(k / 4 % 4:Nat),a.z+(k / 16:Nat)⟩
def cells:Tr→List Int
 | .uni c=>List.replicate 64 c
 | .brick l=>l
 | .node _ _=>[]
noncomputable def can (f:Pt→Int):Nat→Pt→Tr
 | 0,a=>mkBrick ((List.range 64).map fun k=>f (cellAt a k))
 | n+1,a=>mkInner (n+3) fun i=>can f n (cor a n i.val)
theorem getD_el {l:List Int} {i:Nat} (h:i<l.length):l.getD i 0=l[i]:=by simp [List.getD,h]
def upd (f:Pt→Int) (p:Pt) (c:Int):Pt→Int:=fun q=>if q=p then c else f q
open Classical in
noncomputable def add:Tr→List Tr→List Tr
 | .node d ch,ts=>if .node d ch∈ts then ts else (List.finRange 8).foldl (fun a i=>add (ch i) a) ts++[.node d ch]
 | .uni c,ts=>if .uni c∈ts then ts else ts++[.uni c]
 | .brick l,ts=>if .brick l∈ts then ts else ts++[.brick l]
noncomputable def addK (ch:Fin 8→Tr) (k:Nat) (ts:List Tr):List Tr:=((List.finRange 8).take k).foldl (fun a i=>add (ch i) a) ts
theorem addK_zero (ch:Fin 8→Tr) (ts:List Tr):addK ch 0 ts=ts:=rfl
theorem addK_succ (ch:Fin 8→Tr) {k:Nat} (hk:k<8) (ts:List Tr):addK ch (k+1) ts=add (ch ⟨k,hk⟩) (addK ch k ts):=by
 unfold addK
 rw [List.take_succ_eq_append_getElem (by simpa using hk),List.foldl_append]
 simp
theorem addK_all (ch:Fin 8→Tr) (ts:List Tr):addK ch 8 ts=(List.finRange 8).foldl (fun a i=>add (ch i) a) ts:=by
 unfold addK;rw [List.take_of_length_le (by simp)]
open Classical in
theorem add_node (d:Nat) (ch:Fin 8→Tr) (ts:List Tr):add (.node d ch) ts=if .node d ch∈ts then ts else addK ch 8 ts++[.node d ch]:=by
 rw [addK_all,add]
open Classical in
noncomputable def ins (t:Tr) (ts:List Tr):List Tr:=if t∈ts then ts else ts++[t]
theorem add_uni (c:Int) (ts:List Tr):add (.uni c) ts=ins (.uni c) ts:=by rw [add,ins]
theorem add_brick (l:List Int) (ts:List Tr):add (.brick l) ts=ins (.brick l) ts:=by rw [add,ins]
def Closed (ts:List Tr):Prop:=ts.Nodup ∧ ∀ d ch,Tr.node d ch∈ts → ∀ i,ch i∈ts
theorem Closed.nil:Closed []:=⟨by simp,fun d ch h=>by simp at h⟩
theorem addK_ind {P:List Tr→Prop} {ch:Fin 8→Tr} (ih : ∀ i ts,P ts→P (add (ch i) ts)) : ∀ k,k≤8 → ∀ ts,P ts→P (addK ch k ts)
 | 0,_,ts,h=>by rw [addK_zero];exact h
 | k+1,hk,ts,h=>by rw [addK_succ ch (by omega)];exact ih _ _ (addK_ind ih k (by omega) ts h)
theorem ins_of_mem {t:Tr} {ts:List Tr} (h:t∈ts):ins t ts=ts:=if_pos h
theorem ins_of_not {t:Tr} {ts:List Tr} (h:t ∉ ts):ins t ts=ts++[t]:=if_neg h
theorem ins_prefix (t:Tr) (ts:List Tr):ts <+: ins t ts:=by
 by_cases h:t∈ts
 · rw [ins_of_mem h];exact List.prefix_refl _
 · rw [ins_of_not h];exact List.prefix_append _ _
theorem mem_ins (t:Tr) (ts:List Tr):t∈ins t ts:=by
 by_cases h:t∈ts
 · rw [ins_of_mem h];exact h
 · rw [ins_of_not h];simp
theorem add_prefix : ∀ (t:Tr) (ts:List Tr),ts <+: add t ts:=by
 intro t
 induction t with
 | uni c=>intro ts;rw [add_uni];exact ins_prefix _ _
 | brick l=>intro ts;rw [add_brick];exact ins_prefix _ _
 | node d ch ih =>
   intro ts
   rw [add_node]
   split
   · exact List.prefix_refl _
   · exact (addK_ind (P:=fun a=>ts <+: a) (fun i a h=>h.trans (ih i a)) 8 (Nat.le_refl _) ts (List.prefix_refl _)).trans (List.prefix_append _ _)
theorem mem_add (t:Tr) (ts:List Tr):t∈add t ts:=by
 cases t with
 | uni c=>rw [add_uni];exact mem_ins _ _
 | brick l=>rw [add_brick];exact mem_ins _ _
 | node d ch =>
   rw [add_node]
   split
   · assumption
   · simp
theorem add_same : ∀ (t:Tr) (ts:List Tr),t∈ts→add t ts=ts:=by
 intro t ts h
 cases t with
 | uni c=>rw [add_uni,ins_of_mem h]
 | brick l=>rw [add_brick,ins_of_mem h]
 | node d ch=>rw [add_node,if_pos h]
theorem addK_mem (ch:Fin 8→Tr) (ts:List Tr) : ∀ k,k≤8 → ∀ i:Fin 8,i.val<k→ch i∈addK ch k ts
 | 0,_,i,h=>by omega
 | k + 1, hk, i, h => by
   rw [addK_succ ch (by omega)]
   by_cases e:i.val=k
   · rw [show i=⟨k,by omega⟩ from Fin.ext e]
     exact mem_add _ _
   · exact (add_prefix _ _).subset (addK_mem ch ts k (by omega) i (by omega))
def sz:Tr→Nat
 | .uni _=>1
 | .brick _=>1
 | .node _ ch=>1+(List.ofFn fun i=>sz (ch i)).sum
theorem le_sum {l:List Nat} {x:Nat} (h:x∈l):x≤l.sum:=by
 induction l with
 | nil=>simp at h
 | cons y l ih =>
   simp only [List.sum_cons]
   rcases List.mem_cons.1 h with rfl | h
   · omega
   · have:=ih h;omega
theorem sz_kid (d:Nat) (ch:Fin 8→Tr) (i:Fin 8):sz (ch i)<sz (.node d ch):=by
 have:sz (ch i)≤(List.ofFn fun i=>sz (ch i)).sum:=le_sum (List.mem_ofFn.2 ⟨i,rfl⟩)
 simp only [sz];omega
theorem of_mem_ins {x t:Tr} {ts:List Tr} (h:x∈ins t ts):x∈ts∨x=t:=by
 by_cases h':t∈ts
 · rw [ins_of_mem h'] at h;exact .inl h
 · rw [ins_of_not h'] at h;simpa using h
theorem of_mem_add : ∀ (t:Tr) (ts:List Tr) (x:Tr),x∈add t ts→x∈ts∨x=t∨sz x<sz t:=by
 intro t
 induction t with
 | uni c=>intro ts x h;rw [add_uni] at h;rcases of_mem_ins h with h | h;exact .inl h;exact .inr (.inl h)
 | brick l=>intro ts x h;rw [add_brick] at h;rcases of_mem_ins h with h | h;exact .inl h;exact .inr (.inl h)
 | node d ch ih =>
   intro ts x h
   rw [add_node] at h
   split at h
   · exact .inl h
   · rcases List.mem_append.1 h with h | h
     · have:=addK_ind (P:=fun a => ∀ x∈a,x∈ts∨sz x<sz (.node d ch)) (fun i a ha x hx=>by
        rcases ih i a x hx with h | rfl | h
        · exact ha x h
        · exact .inr (sz_kid d ch i)
        · exact .inr (Nat.lt_trans h (sz_kid d ch i))) 8 (Nat.le_refl _) ts (fun x hx=>.inl hx) x h
       rcases this with h | h
       · exact .inl h
       · exact .inr (.inr h)
     · simp at h;exact .inr (.inl h)
theorem not_mem_kids {d:Nat} {ch:Fin 8→Tr} {ts:List Tr} (h : .node d ch ∉ ts) (k:Nat) (hk:k≤8) : .node d ch ∉ addK ch k ts:=by
 have:=addK_ind (P:=fun a=>Tr.node d ch ∉ a) (ch:=ch) (fun i a ha hx=>by
  rcases of_mem_add _ _ _ hx with h | h | h
  · exact ha h
  · have:=sz_kid d ch i;rw [←h] at this;omega
  · have:=sz_kid d ch i;omega) k hk ts h
 exact this
theorem Closed.ins {t:Tr} {ts:List Tr} (h:Closed ts) (hk : ∀ d ch,t = .node d ch → ∀ i,ch i∈ts):Closed (ins t ts):=by
 by_cases hm:t∈ts
 · rw [ins_of_mem hm];exact h
 · rw [ins_of_not hm]
   refine ⟨?_,fun d ch hc i=>?_⟩
   · rw [List.nodup_append]
     exact ⟨h.1,by simp,fun a ha b hb=>by simp at hb;subst hb;rintro rfl;exact hm ha⟩
   · rcases List.mem_append.1 hc with hc | hc
     · exact List.mem_append.2 (.inl (h.2 d ch hc i))
     · simp at hc;exact List.mem_append.2 (.inl (hk d ch hc.symm i))
theorem node_add {d:Nat} {ch:Fin 8→Tr} {ts:List Tr} (h:Closed ts):add (.node d ch) ts=Tr.ins (.node d ch) (addK ch 8 ts):=by
 rw [add_node]
 split
 · rename_i hm
   have:addK ch 8 ts=ts:=addK_ind (P:=fun a=>a=ts) (fun i a ha=>by subst ha;exact add_same _ _ (h.2 d ch hm i)) 8 (Nat.le_refl _) ts rfl
   rw [this,ins_of_mem hm]
 · rename_i hm
   rw [ins_of_not (not_mem_kids hm 8 (Nat.le_refl _))]
theorem Closed.add : ∀ (t:Tr) {ts:List Tr},Closed ts→Closed (add t ts):=by
 intro t
 induction t with
 | uni c=>intro ts h;rw [add_uni];exact h.ins (fun d ch e=>by cases e)
 | brick l=>intro ts h;rw [add_brick];exact h.ins (fun d ch e=>by cases e)
 | node d ch ih =>
   intro ts h
   rw [node_add h]
   exact (addK_ind (P:=Closed) (fun i a ha=>ih i ha) 8 (Nat.le_refl _) ts h).ins (fun d' ch' e i=>by
    injection e with e1 e2
    subst e2
    exact addK_mem _ ts 8 (Nat.le_refl _) i i.isLt)
theorem Closed.addK {ch:Fin 8→Tr} {ts:List Tr} (h:Closed ts) (k:Nat) (hk:k≤8):Closed (addK ch k ts):=addK_ind (P:=Closed) (fun _i _a ha=>Closed.add _ ha) k hk ts h
open Classical in
theorem inner_add {d:Nat} {ch:Fin 8→Tr} {ts:List Tr} (h:Closed ts) :
 add (mkInner d ch) ts=if mkInner d ch=ch 0∧(∃ c,ch 0 = .uni c) then addK ch 8 ts else Tr.ins (.node d ch) (addK ch 8 ts):=by
 unfold mkInner
 split
 · rename_i hc
   obtain ⟨⟨c,hc⟩,hall⟩:=hc
   rw [if_pos ⟨rfl,c,hc⟩]
   have : ∀ k,k≤7→Tr.addK ch (k+1) ts=Tr.add (ch 0) ts:=by
    intro k
    induction k with
    | zero=>intro _;rw [addK_succ ch (by omega),addK_zero];rfl
    | succ k ih =>
      intro hk
      rw [addK_succ ch (by omega),ih (by omega),hall ⟨k+1,by omega⟩]
      exact add_same _ _ (mem_add _ _)
   exact (this 7 (Nat.le_refl _)).symm
 · rename_i hc
   rw [if_neg,node_add h]
   rintro ⟨e1,c,e2⟩
   rw [e2] at e1;cases e1
def enc:Tr→List Int
 | .uni c=>[117,c]
 | .brick l=>98::l
 | .node d ch=>110::(d:Int)::(List.ofFn fun i=>enc (ch i)).flatten
def WF:Tr→Prop
 | .uni c=>0≤c∧c≤255
 | .brick l=>l.length=64 ∧ ∀ x∈l,0≤x∧x≤255
 | .node d ch=>d≤255 ∧ ∀ i,WF (ch i)
end Tr
end Oct
end Go.Proofs.YtajhkncolbgkbaaDoor
end
section
namespace Go.Proofs.YtajhkncolbgkbaaDoor
open Go.RowKit
theorem Bk.c2 {w:World} {g:Nat} {x0 x1:Value} {r:List Value} {t:TypeId} (h:Bk w g (x0::x1::r).toArray t):w.cell? ⟨g,0,none⟩=some x0∧w.cell? ⟨g,1,none⟩=some x1 :=
 ⟨h.cell 0 rfl,h.cell 1 rfl⟩
theorem Bk.f2 {w:World} {g:Nat} {cs:Array Value} {t:TypeId} (h:Bk w g cs t):w.frozen? ⟨g,0,none⟩=false∧w.frozen? ⟨g,1,none⟩=false :=
 ⟨h.frozen 0,h.frozen 1⟩
theorem Bk.c3 {w:World} {g:Nat} {x0 x1 x2:Value} {r:List Value} {t:TypeId} (h:Bk w g (x0::x1::x2::r).toArray t):w.cell? ⟨g,0,none⟩=some x0∧w.cell? ⟨g,1,none⟩=some x1∧w.cell? ⟨g,2,none⟩=some x2 :=
 ⟨h.cell 0 rfl,h.cell 1 rfl,h.cell 2 rfl⟩
theorem Bk.f3 {w:World} {g:Nat} {cs:Array Value} {t:TypeId} (h:Bk w g cs t):w.frozen? ⟨g,0,none⟩=false∧w.frozen? ⟨g,1,none⟩=false∧w.frozen? ⟨g,2,none⟩=false :=
 ⟨h.frozen 0,h.frozen 1,h.frozen 2⟩
theorem Bk.c4 {w:World} {g:Nat} {x0 x1 x2 x3:Value} {r:List Value} {t:TypeId} (h:Bk w g (x0::x1::x2::x3::r).toArray t):w.cell? ⟨g,0,none⟩=some x0∧w.cell? ⟨g,1,none⟩=some x1∧w.cell? ⟨g,2,none⟩=some x2∧w.cell? ⟨g,3,none⟩=some x3 :=
 ⟨h.cell 0 rfl,h.cell 1 rfl,h.cell 2 rfl,h.cell 3 rfl⟩
theorem Bk.f4 {w:World} {g:Nat} {cs:Array Value} {t:TypeId} (h:Bk w g cs t):w.frozen? ⟨g,0,none⟩=false∧w.frozen? ⟨g,1,none⟩=false∧w.frozen? ⟨g,2,none⟩=false∧w.frozen? ⟨g,3,none⟩=false :=
 ⟨h.frozen 0,h.frozen 1,h.frozen 2,h.frozen 3⟩
theorem Bk.c5 {w:World} {g:Nat} {x0 x1 x2 x3 x4:Value} {r:List Value} {t:TypeId} (h:Bk w g (x0::x1::x2::x3::x4::r).toArray t):w.cell? ⟨g,0,none⟩=some x0∧w.cell? ⟨g,1,none⟩=some x1∧w.cell? ⟨g,2,none⟩=some x2∧w.cell? ⟨g,3,none⟩=some x3∧w.cell? ⟨g,4,none⟩=some x4 :=
 ⟨h.cell 0 rfl,h.cell 1 rfl,h.cell 2 rfl,h.cell 3 rfl,h.cell 4 rfl⟩
theorem Bk.f5 {w:World} {g:Nat} {cs:Array Value} {t:TypeId} (h:Bk w g cs t):w.frozen? ⟨g,0,none⟩=false∧w.frozen? ⟨g,1,none⟩=false∧w.frozen? ⟨g,2,none⟩=false∧w.frozen? ⟨g,3,none⟩=false∧w.frozen? ⟨g,4,none⟩=false :=
 ⟨h.frozen 0,h.frozen 1,h.frozen 2,h.frozen 3,h.frozen 4⟩
theorem Bk.c6 {w:World} {g:Nat} {x0 x1 x2 x3 x4 x5:Value} {r:List Value} {t:TypeId} (h:Bk w g (x0::x1::x2::x3::x4::x5::r).toArray t):w.cell? ⟨g,0,none⟩=some x0∧w.cell? ⟨g,1,none⟩=some x1∧w.cell? ⟨g,2,none⟩=some x2∧w.cell? ⟨g,3,none⟩=some x3∧w.cell? ⟨g,4,none⟩=some x4∧w.cell? ⟨g,5,none⟩=some x5 :=
 ⟨h.cell 0 rfl,h.cell 1 rfl,h.cell 2 rfl,h.cell 3 rfl,h.cell 4 rfl,h.cell 5 rfl⟩
theorem Bk.f6 {w:World} {g:Nat} {cs:Array Value} {t:TypeId} (h:Bk w g cs t):w.frozen? ⟨g,0,none⟩=false∧w.frozen? ⟨g,1,none⟩=false∧w.frozen? ⟨g,2,none⟩=false∧w.frozen? ⟨g,3,none⟩=false∧w.frozen? ⟨g,4,none⟩=false∧w.frozen? ⟨g,5,none⟩=false :=
 ⟨h.frozen 0,h.frozen 1,h.frozen 2,h.frozen 3,h.frozen 4,h.frozen 5⟩
theorem Bk.c7 {w:World} {g:Nat} {x0 x1 x2 x3 x4 x5 x6:Value} {r:List Value} {t:TypeId} (h:Bk w g (x0::x1::x2::x3::x4::x5::x6::r).toArray t):w.cell? ⟨g,0,none⟩=some x0∧w.cell? ⟨g,1,none⟩=some x1∧w.cell? ⟨g,2,none⟩=some x2∧w.cell? ⟨g,3,none⟩=some x3∧w.cell? ⟨g,4,none⟩=some x4∧w.cell? ⟨g,5,none⟩=some x5∧w.cell? ⟨g,6,none⟩=some x6 :=
 ⟨h.cell 0 rfl,h.cell 1 rfl,h.cell 2 rfl,h.cell 3 rfl,h.cell 4 rfl,h.cell 5 rfl,h.cell 6 rfl⟩
theorem Bk.f7 {w:World} {g:Nat} {cs:Array Value} {t:TypeId} (h:Bk w g cs t):w.frozen? ⟨g,0,none⟩=false∧w.frozen? ⟨g,1,none⟩=false∧w.frozen? ⟨g,2,none⟩=false∧w.frozen? ⟨g,3,none⟩=false∧w.frozen? ⟨g,4,none⟩=false∧w.frozen? ⟨g,5,none⟩=false∧w.frozen? ⟨g,6,none⟩=false :=
 ⟨h.frozen 0,h.frozen 1,h.frozen 2,h.frozen 3,h.frozen 4,h.frozen 5,h.frozen 6⟩
theorem Bk.c8 {w:World} {g:Nat} {x0 x1 x2 x3 x4 x5 x6 x7:Value} {r:List Value} {t:TypeId} (h:Bk w g (x0::x1::x2::x3::x4::x5::x6::x7::r).toArray t):w.cell? ⟨g,0,none⟩=some x0∧w.cell? ⟨g,1,none⟩=some x1∧w.cell? ⟨g,2,none⟩=some x2∧w.cell? ⟨g,3,none⟩=some x3∧w.cell? ⟨g,4,none⟩=some x4∧w.cell? ⟨g,5,none⟩=some x5∧w.cell? ⟨g,6,none⟩=some x6∧w.cell? ⟨g,7,none⟩=some x7 :=
 ⟨h.cell 0 rfl,h.cell 1 rfl,h.cell 2 rfl,h.cell 3 rfl,h.cell 4 rfl,h.cell 5 rfl,h.cell 6 rfl,h.cell 7 rfl⟩
theorem Bk.f8 {w:World} {g:Nat} {cs:Array Value} {t:TypeId} (h:Bk w g cs t):w.frozen? ⟨g,0,none⟩=false∧w.frozen? ⟨g,1,none⟩=false∧w.frozen? ⟨g,2,none⟩=false∧w.frozen? ⟨g,3,none⟩=false∧w.frozen? ⟨g,4,none⟩=false∧w.frozen? ⟨g,5,none⟩=false∧w.frozen? ⟨g,6,none⟩=false∧w.frozen? ⟨g,7,none⟩=false :=
 ⟨h.frozen 0,h.frozen 1,h.frozen 2,h.frozen 3,h.frozen 4,h.frozen 5,h.frozen 6,h.frozen 7⟩
theorem Bk.c12 {w:World} {g:Nat} {x0 x1 x2 x3 x4 x5 x6 x7 x8 x9 x10 x11:Value} {r:List Value} {t:TypeId} (h:Bk w g (x0::x1::x2::x3::x4::x5::x6::x7::x8::x9::x10::x11::r).toArray t):w.cell? ⟨g,0,none⟩=some x0∧w.cell? ⟨g,1,none⟩=some x1∧w.cell? ⟨g,2,none⟩=some x2∧w.cell? ⟨g,3,none⟩=some x3∧w.cell? ⟨g,4,none⟩=some x4∧w.cell? ⟨g,5,none⟩=some x5∧w.cell? ⟨g,6,none⟩=some x6∧w.cell? ⟨g,7,none⟩=some x7∧w.cell? ⟨g,8,none⟩=some x8∧w.cell? ⟨g,9,none⟩=some x9∧w.cell? ⟨g,10,none⟩=some x10∧w.cell? ⟨g,11,none⟩=some x11 :=
 ⟨h.cell 0 rfl,h.cell 1 rfl,h.cell 2 rfl,h.cell 3 rfl,h.cell 4 rfl,h.cell 5 rfl,h.cell 6 rfl,h.cell 7 rfl,h.cell 8 rfl,h.cell 9 rfl,h.cell 10 rfl,h.cell 11 rfl⟩
theorem Bk.f12 {w:World} {g:Nat} {cs:Array Value} {t:TypeId} (h:Bk w g cs t):w.frozen? ⟨g,0,none⟩=false∧w.frozen? ⟨g,1,none⟩=false∧w.frozen? ⟨g,2,none⟩=false∧w.frozen? ⟨g,3,none⟩=false∧w.frozen? ⟨g,4,none⟩=false∧w.frozen? ⟨g,5,none⟩=false∧w.frozen? ⟨g,6,none⟩=false∧w.frozen? ⟨g,7,none⟩=false∧w.frozen? ⟨g,8,none⟩=false∧w.frozen? ⟨g,9,none⟩=false∧w.frozen? ⟨g,10,none⟩=false∧w.frozen? ⟨g,11,none⟩=false :=
 ⟨h.frozen 0,h.frozen 1,h.frozen 2,h.frozen 3,h.frozen 4,h.frozen 5,h.frozen 6,h.frozen 7,h.frozen 8,h.frozen 9,h.frozen 10,h.frozen 11⟩
end Go.Proofs.YtajhkncolbgkbaaDoor
end
section
namespace Go.Proofs.YtajhkncolbgkbaaDoor
open Go.RowKit
instance : Coe Int Value := ⟨Value.int .i64⟩
theorem bl1 {w W : World} {o : Obj} (hW : World.alloc w o = W) : Below w.heap.size w W := by rw [← hW]; exact (Below.refl _ _).alloc (Nat.le_refl _) _
theorem bl2 {w W : World} {o p : Obj} (hW : World.alloc (World.alloc w o) p = W) : Below w.heap.size w W := by rw [← hW]; exact ((Below.refl _ _).alloc (Nat.le_refl _) _).alloc (by simp) _
theorem bl3 {w W : World} {o p q : Obj} (hW : World.alloc (World.alloc (World.alloc w o) p) q = W) : Below w.heap.size w W := by rw [← hW]; exact (((Below.refl _ _).alloc (Nat.le_refl _) _).alloc (by simp) _).alloc (by simp; omega) _
theorem sz1 {w W : World} {o : Obj} (hW : World.alloc w o = W) : w.heap.size + 1 ≤ W.heap.size := by rw [← hW]; simp
theorem sz2 {w W : World} {o p : Obj} (hW : World.alloc (World.alloc w o) p = W) : w.heap.size + 1 + 1 ≤ W.heap.size := by rw [← hW]; simp
theorem sz3 {w W : World} {o p q : Obj} (hW : World.alloc (World.alloc (World.alloc w o) p) q = W) : w.heap.size + 1 + 1 + 1 ≤ W.heap.size := by rw [← hW]; simp
theorem bk0 {w W : World} {o : Obj} {n : Nat} (hW : World.alloc w o = W) (h : n = w.heap.size := by simp) : W.heap[n]? = some o := by rw [← hW]; exact blk_new _ _ _ h
theorem bk1 {w W : World} {o p : Obj} {n : Nat} (hW : World.alloc (World.alloc w o) p = W) (h : n = w.heap.size := by simp) : W.heap[n]? = some o := by rw [← hW]; exact blk_old (blk_new _ _ _ h)
theorem bk2 {w W : World} {o p q : Obj} {n : Nat} (hW : World.alloc (World.alloc (World.alloc w o) p) q = W) (h : n = w.heap.size := by simp) : W.heap[n]? = some o := by rw [← hW]; exact blk_old (blk_old (blk_new _ _ _ h))
end Go.Proofs.YtajhkncolbgkbaaDoor
end
