/- Byt, Inp, EPal, Dgp, Lca, Lde, Lsp, Edt, Edc, Efl, Tbr, Tfe, Tfb, Gwr, Tw1, Row, Sho: joined by program, for one claim. -/
import Derived.Test.YtgnfgblkpnfcnaaGreatDoorM37
import Derived.Test.YtgnfgblkpnfcnaaGreatDoorM38
import Derived.Test.YtgnfgblkpnfcnaaGreatDoorM23
import Derived.Test.YtgnfgblkpnfcnaaGreatDoorM24
import Derived.Test.YtgnfgblkpnfcnaaGreatDoorM28
import Derived.Test.YtgnfgblkpnfcnaaGreatDoorM25
import Derived.Test.YtgnfgblkpnfcnaaGreatDoorM18
import Derived.Test.YtgnfgblkpnfcnaaGreatDoorM33
import Derived.Test.YtgnfgblkpnfcnaaGreatDoorM30
import Derived.Test.YtgnfgblkpnfcnaaGreatDoorM22
import Derived.Test.YtgnfgblkpnfcnaaGreatDoorM27
import Derived.Test.YtgnfgblkpnfcnaaGreatDoorM31
import Derived.Test.YtgnfgblkpnfcnaaGreatDoorM11
import Derived.Test.YtgnfgblkpnfcnaaGreatDoorM8
import Derived.Test.YtgnfgblkpnfcnaaGreatDoorM15
import Derived.Test.YtgnfgblkpnfcnaaGreatDoorM10
import Derived.Test.YtgnfgblkpnfcnaaGreatDoorM13
import Derived.Test.YtgnfgblkpnfcnaaGreatDoorM14
import Derived.Shelf.Abstract
import Derived.Test.YtgnfgblkpnfcnaaGreatDoorM5
import Derived.Test.YtgnfgblkpnfcnaaGreatDoorM4
import Derived.Deep.Cut
import Derived.Laws.StructEq
import Derived.Maps.AppendAt
import Derived.Deep.CutRange
import Derived.Deep.Onto
import Derived.Deep.AppendSrc
import Derived.Deep.Upon
set_option linter.unusedVariables false
set_option linter.unusedSimpArgs false
section
namespace Go.Proofs.YtgnfgblkpnfcnaaGreatDoor
open Go.RowKit Go.Sort
theorem strCells_nums {ys:List Int} (h:Byt ys):Go.Lib.strCells (strOfNums ys)=ys.map (Value.int .u8):=by
 have h3:=bs_str h
 unfold Go.Lib.strCells
 conv=>rhs;rw [←h3]
 unfold bs
 rw [List.map_map];rfl
theorem wpList_append_str {P:Program} {w:World} {ops:Array Oper} {rest:List Oper} {o:Oper} {a:Act} {Q:Exit→Act→World→Prop} (hgd:o.guard=none) (sl x:Operand) (t u:TypeId)
 (ho:o.op = .call { callee:=.builtin .append,args:=#[sl,x],argTypes:=#[t,u] })
 (B:Nat) (e:TypeId) (ht:P.underlying t=some (.slice e)) (hu:P.underlying u=some .string) (hi:(P.info? e).map (fun i=>(i.zero,i.size,i.bytes))=some (some (.int .u8 0),1,1))
 (v:Value) (xs ys:List Int) (hs:a.eval sl=v) (hown:Own w B e .u8 v xs) (hy:Byt ys) (hx:a.eval x = .string (strOfNums ys)) (hlen:xs.length+ys.length≤1000000000) (hbase:B≤w.heap.size)
 (h : ∀ v' w',Own w' B e .u8 v' (xs++ys)→w.grownBy w' v.ownBlock→wpList P ops Q rest (a.put o.dst v') w'):wpList P ops Q (o::rest) a w:=by
 obtain ⟨i0,hi0,hz0,hz1,hz2⟩:=info_parts hi
 have hsz:=strOfNums_size ys
 refine Go.Lib.wpList_append_own_string w hgd sl x t u ho B e i0 ht hu hi0 hz0 hz1 hz2 v xs.length (xs.map (Value.int .u8)) hs hown (strOfNums ys) hx (by rw [hsz];unfold maxLen;omega) (by rw [hsz];omega) hbase fun v' w' h1 h2 _=>h v' w' ?_ h2
 unfold Own
 rw [hsz,strCells_nums hy] at h1
 rw [List.length_append,List.map_append]
 exact h1
def wb (p:List Int):List Int:=vi (2 * p.length)++p
theorem byt_wb {p:List Int} (h:Byt p):Byt (wb p):=(byt_vi _).append h
theorem vi_le (z:Nat) (hz:z≤2000000000000):(vi z).length≤7:=vi_len 6 z (by have:128 ^ (6+1)=562949953421312:=(by decide);omega)
theorem wb_len (p:List Int) (h:p.length≤1000000):(wb p).length≤p.length+7:=by
 unfold wb
 rw [List.length_append]
 have:=vi_le (2 * p.length) (by omega)
 omega
theorem PadI.str {w:World} {v v':Value} {xs ys:List Int} {w1 w4:World} (h:PadI w v xs w1) (ho:Own w4 w.heap.size 5 .u8 v' (xs++ys)) (hg:w1.grownBy w4 v.ownBlock):PadI w v' (xs++ys) w4:=by
 have hne : ∀ k,k<w.heap.size→v.ownBlock ≠ some k:=fun k hk e=>by have:=(h.own.lt k e).1;omega
 have hs:=h.bel.size
 exact ⟨ho,h.bel.trans ⟨hg.os,hg.tape,hg.output,hg.size,fun k hk=>hg.block k (by omega) (fun e=>hne k hk e.symm)⟩⟩
set_option maxRecDepth 100000 in
theorem bytes_any (p:List Int) (hb:Byt p) (hl:p.length≤1000000) (w:World):Calls Tryz.prog 136 #[.string (strOfNums p)] w (BytesPost w (wb p)):=by
 have hI:=Bx.mk (int_any p.length (by omega) w)
 have hsz:(strOfNums p).size=p.length:=strOfNums_size p
 have hb:=Bx.mk hb
 have hln:Bx ((vi (2 * p.length)).length+p.length≤1000000000):=⟨by have:=vi_le (2 * p.length) (by omega);omega⟩
 unfold wb
 generalize vi (2 * p.length)=xs at *
 go_enter Tryz.func136,Tryz.ntmps136
 go_wp2_with fail
 refine hI.out.mono ?_
 rintro _ w1 ⟨v1,rfl,hp1⟩
 replace hp1:=Bx.mk hp1
 go_wp2_with (refine wpList_append_str rfl _ _ _ _ rfl w.heap.size 5 Tryz.underlying84 Tryz.underlying9 (by kernel_rfl) _ xs p rfl hp1.out.own hb.out rfl hln.out hp1.out.bel.size ?_)
 intro v2 w2 ho hg
 have hp2:=Bx.mk (hp1.out.str ho hg)
 clear ho hg hp1
 go_wp2_with fail
 go_ret
 exact ⟨_,rfl,hp2.out⟩
def dinp (tag:Int) (ps:List (List Int)):List Int:=tag % 256::(ps.map wb).flatten
theorem dinp_snoc (tag:Int) (ps:List (List Int)) (p:List Int):dinp tag (ps++[p])=dinp tag ps++wb p:=by unfold dinp;simp
theorem dinp_len (tag:Int) (k:Nat) : ∀ {ps:List (List Int)},(∀ p∈ps,p.length≤1000)→ps.length≤k→(dinp tag ps).length≤1+k * 1007:=by
 have key : ∀ {ps:List (List Int)},(∀ p∈ps,p.length≤1000)→((ps.map wb).flatten).length≤ps.length * 1007:=by
  intro ps
  induction ps with
  | nil=>intro _;simp
  | cons p ps ih =>
    intro h
    rw [List.map_cons,List.flatten_cons,List.length_append,List.length_cons]
    have h1:=ih fun q hq=>h q (List.mem_cons_of_mem _ hq)
    have h2:=h p List.mem_cons_self
    have h3:=wb_len p (by omega)
    omega
 intro ps h hk
 unfold dinp
 rw [List.length_cons]
 have h1:=key h
 have h2:ps.length * 1007≤k * 1007:=Nat.mul_le_mul_right _ hk
 omega
def dig (kc:List Int) (tag:Int) (ps:List (List Int)):List Int:=(sha kc (dinp tag ps)).take 16
end Go.Proofs.YtgnfgblkpnfcnaaGreatDoor
end
section
namespace Go.Proofs.YtgnfgblkpnfcnaaGreatDoor
open Go.RowKit Go.Sort
theorem PadI.start {w:World} {v:Value} {xs:List Int} {w1:World} (ho:Own w1 w.heap.size 5 .u8 v xs) (hb:Below w.heap.size w w1):PadI w v xs w1:=⟨ho,hb⟩
structure Parts (ps:List (List Int)):Prop where
 byt : ∀ p∈ps,Byt p
 len : ∀ p∈ps,p.length≤1000
 few:ps.length≤20
end Go.Proofs.YtgnfgblkpnfcnaaGreatDoor
end
section
namespace Go.Proofs.YtgnfgblkpnfcnaaGreatDoor.PalE.Pal
def add (p:List Int) (c:Int):List Int:=if c∈p then p else p++[c]
def diff (l:List Int):List Int:=l.foldl add []
theorem diff_snoc (l:List Int) (c:Int):diff (l++[c])=add (diff l) c:=by simp [diff]
theorem diff_take (l:List Int) (k:Nat) (x:Int) (h:l[k]? = some x):diff (l.take (k+1))=add (diff (l.take k)) x:=by
 rw [List.take_add_one,h];exact diff_snoc _ _
theorem add_length (p:List Int) (c:Int):(add p c).length≤p.length+1:=by
 unfold add;split <;> simp
theorem diff_length_take (l:List Int) (k:Nat):(diff (l.take k)).length≤k:=by
 induction k with
 | zero=>simp [diff]
 | succ k ih =>
   cases h:l[k]? with
   | none =>
     rw [List.take_add_one,h];simp;omega
   | some x =>
     rw [diff_take l k x h]
     have:=add_length (diff (l.take k)) x
     omega
theorem diff_length (l:List Int):(diff l).length≤l.length:=by
 have:=diff_length_take l l.length
 simpa using this
def find (xs:List Int) (c:Int):Int:=if c∈xs then ((xs.idxOf c:Nat):Int) else -1
theorem find_pos {xs:List Int} {c:Int} (h:c∈xs):find xs c=((xs.idxOf c:Nat):Int):=if_pos h
theorem find_neg {xs:List Int} {c:Int} (h:c ∉ xs):find xs c = -1:=if_neg h
def width (m:Nat):Nat:=if m≤1 then 0 else if m≤2 then 1 else if m≤4 then 2 else if m≤16 then 4 else 8
def byt (w:Nat) (f:Nat→Nat):Nat→Nat→Nat
 | 0,_=>0
 | k+1,j=>byt w f k j+if k * w / 8=j then f k * 2 ^ (k * w % 8) else 0
def packs (w:Nat) (f:Nat→Nat) (n:Nat):List Int:=(List.range ((n * w+7) / 8)).map fun j=>(byt w f n j:Int)
def Wd (w:Nat):Prop:=w=1∨w=2∨w=4∨w=8
theorem byt_lt (w:Nat) (f:Nat→Nat) (hw:Wd w) : ∀ k,(∀ i,i<k→f i<2 ^ w) → ∀ j,
 (k * w≤8 * j→byt w f k j=0)∧(8 * j<k * w→k * w≤8 * j+8→byt w f k j<2 ^ (k * w - 8 * j))∧byt w f k j<256:=by
 intro k
 induction k with
 | zero=>intro _ j;simp [byt]
 | succ k ih =>
   intro hf j
   obtain ⟨h1,h2,h3⟩:=ih (fun i hi=>hf i (by omega)) j
   have hk:=hf k (by omega)
   unfold byt
   rcases hw with rfl | rfl | rfl | rfl
   · by_cases hj:k * 1 / 8=j
     · rw [if_pos hj]
       have:k * 1 % 8=0∨k * 1 % 8=1∨k * 1 % 8=2∨k * 1 % 8=3∨k * 1 % 8=4∨k * 1 % 8=5∨k * 1 % 8=6∨k * 1 % 8=7:=by omega
       by_cases h0:k * 1≤8 * j
       · have hb:=h1 h0
         have hs:k * 1 % 8=0:=by omega
         have he:(k+1) * 1 - 8 * j=1:=by omega
         rw [hb,hs,he];simp at hk ⊢; omega
       · have hb:=h2 (by omega) (by omega)
         have he:(k+1) * 1 - 8 * j=k * 1 % 8+1:=by omega
         have he':k * 1 - 8 * j=k * 1 % 8:=by omega
         rw [he] ; rw [he'] at hb
         rcases this with hs | hs | hs | hs | hs | hs | hs | hs <;> rw [hs] at hb ⊢ <;> simp at hk hb ⊢ <;> omega
     · rw [if_neg hj]
       refine ⟨fun h=>by simpa using h1 (by omega),fun ha hb=>?_,by simpa using h3⟩
       have:=h2 (by omega) (by omega)
       omega
   · by_cases hj:k * 2 / 8=j
     · rw [if_pos hj]
       have:k * 2 % 8=0∨k * 2 % 8=2∨k * 2 % 8=4∨k * 2 % 8=6:=by omega
       by_cases h0:k * 2≤8 * j
       · have hb:=h1 h0
         have hs:k * 2 % 8=0:=by omega
         have he:(k+1) * 2 - 8 * j=2:=by omega
         rw [hb,hs,he];simp at hk ⊢; omega
       · have hb:=h2 (by omega) (by omega)
         have he:(k+1) * 2 - 8 * j=k * 2 % 8+2:=by omega
         have he':k * 2 - 8 * j=k * 2 % 8:=by omega
         rw [he] ; rw [he'] at hb
         rcases this with hs | hs | hs | hs <;> rw [hs] at hb ⊢ <;> simp at hk hb ⊢ <;> omega
     · rw [if_neg hj]
       refine ⟨fun h=>by simpa using h1 (by omega),fun ha hb=>?_,by simpa using h3⟩
       omega
   · by_cases hj:k * 4 / 8=j
     · rw [if_pos hj]
       have:k * 4 % 8=0∨k * 4 % 8=4:=by omega
       by_cases h0:k * 4≤8 * j
       · have hb:=h1 h0
         have hs:k * 4 % 8=0:=by omega
         have he:(k+1) * 4 - 8 * j=4:=by omega
         rw [hb,hs,he];simp at hk ⊢; omega
       · have hb:=h2 (by omega) (by omega)
         have he:(k+1) * 4 - 8 * j=k * 4 % 8+4:=by omega
         have he':k * 4 - 8 * j=k * 4 % 8:=by omega
         rw [he] ; rw [he'] at hb
         rcases this with hs | hs <;> rw [hs] at hb ⊢ <;> simp at hk hb ⊢ <;> omega
     · rw [if_neg hj]
       refine ⟨fun h=>by simpa using h1 (by omega),fun ha hb=>?_,by simpa using h3⟩
       omega
   · by_cases hj:k * 8 / 8=j
     · rw [if_pos hj]
       have hs:k * 8 % 8=0:=by omega
       have hb:=h1 (by omega)
       have he:(k+1) * 8 - 8 * j=8:=by omega
       rw [hb,hs,he];simp at hk ⊢; omega
     · rw [if_neg hj]
       refine ⟨fun h=>by simpa using h1 (by omega),fun ha hb=>?_,by simpa using h3⟩
       omega
def cell (c:Int):Bool:=decide (0≤c) && decide (c≤255)
def bytes (w:Nat) (f:Nat→Nat) (k m:Nat):List Int:=(List.range m).map fun j=>(byt w f k j:Int)
def bad (cells:List Int):Bool := !cells.all cell || decide (64<cells.length)
def packMain (cells:List Int):List Int:=(cells.length:Int)::((diff cells).length:Int)::(diff cells++packs (width (diff cells).length) (fun i=>(diff cells).idxOf (cells.getD i 0)) cells.length)
def packB (cells:List Int):List Int:=if bad cells then [] else if cells.length=0 then [0] else packMain cells
def packE (cells:List Int):Int:=if bad cells then 1 else 0
theorem packB_bad {cells:List Int} (h:bad cells=true):packB cells=[]:=by simp [packB,h]
theorem packE_bad {cells:List Int} (h:bad cells=true):packE cells=1:=by simp [packE,h]
theorem packE_good {cells:List Int} (h:bad cells=false):packE cells=0:=by simp [packE,h]
theorem packB_nil {cells:List Int} (h:bad cells=false) (h0:cells.length=0):packB cells=[0]:=by simp [packB,h,h0]
theorem packB_main {cells:List Int} (h:bad cells=false) (h0 : ¬cells.length=0):packB cells=packMain cells:=by simp [packB,h,h0]
theorem mem_foldl_add (l:List Int) : ∀ (p:List Int) (c:Int),c∈l.foldl add p ↔ c∈p∨c∈l:=by
 induction l with
 | nil=>simp
 | cons x l ih =>
   intro p c
   rw [List.foldl_cons,ih]
   unfold add
   split <;> simp_all <;> grind
theorem mem_diff (l:List Int) (c:Int):c∈diff l ↔ c∈l:=by simp [diff,mem_foldl_add]
theorem width_wd {m:Nat} (h:1<m):Wd (width m):=by
 unfold Wd width
 repeat (split <;> try omega)
theorem width_fits {m:Nat} (h:m≤64):m≤2 ^ width m:=by
 unfold width
 repeat (split <;> try omega)
def dg (t:List Int) (w i:Nat):Option (Nat × Nat) :=
 if w=0 then some (0,0) else (t[i * w / 8]?).map fun b=>(b.toNat / 2 ^ (i * w % 8) % 2 ^ w,b.toNat / 2 ^ (i * w % 8) / 2 ^ w)
def nxt (seen x:Nat):Nat:=if x=seen then seen+1 else seen
def encB (cells:List Int):List Int:=if cells.length ≠ 64 then [] else packB cells
def encE (cells:List Int):Int:=if cells.length ≠ 64 then 1 else packE cells
def brick (l:List Int):Bool:=decide (l.length=64) && l.all cell
def bit (t:List Int) (i:Nat):Nat:=(t.getD (i / 8) 0).toNat / 2 ^ (i % 8) % 2
def st (old t cells:List Int):Nat→Option (Nat × List Int)
 | 0=>some (0,[])
 | i + 1 =>
   match st old t cells i with
   | none=>none
   | some (k, out) =>
     if bit t i=0 then some (k,out++[old.getD i 0])
     else match cells[k]? with
      | none=>none
      | some c=>if c=old.getD i 0 then none else some (k+1,out++[c])
end Go.Proofs.YtgnfgblkpnfcnaaGreatDoor.PalE.Pal
end
section
namespace Go.Proofs.YtgnfgblkpnfcnaaGreatDoor
open Go.RowKit Go.Sort
open Oct
theorem dig_len (kc:List Int) (tag:Int) (ps:List (List Int)):(dig kc tag ps).length=16:=by
 unfold dig
 rw [List.length_take,show (sha kc (dinp tag ps)).length=32 from out_len _];rfl
theorem byt_dig (kc:List Int) (tag:Int) (ps:List (List Int)):Byt (dig kc tag ps):=(byt_out _).take 16
theorem parts_one {p:List Int} (h:Byt p) (hl:p.length≤1000):Parts [p] :=
 ⟨fun q hq=>by rw [List.mem_singleton.1 hq];exact h,fun q hq=>by rw [List.mem_singleton.1 hq];exact hl,by simp⟩
theorem slv_lit (w:World) (p:List Int) (t:TypeId):Slv (w.alloc (.cells #[.string (strOfNums p)] t)) (some ⟨w.heap.size,0,none⟩) (strs [p]):=by
 intro i v hv
 match i with
 | 0 =>
   simp [strs] at hv
   subst hv
   exact ⟨_,0,rfl,cell_new _ _ _⟩
 | i+1=>simp [strs] at hv
theorem Ownv.lit1 (w:World) (B:Nat) (e:TypeId) (u:Value) (hb:B≤w.heap.size):Ownv (w.alloc (.cells #[u] e)) B e (.slice (some ⟨w.heap.size,0,none⟩) 1 1) [u]:=by
 have:=World.ownsRow_lit (e:=e) (size:=1) w #[u] 1 hb (by decide) (by simp)
 simpa [Ownv] using this
theorem diff_short (l:List Int):(PalE.Pal.diff l).length≤l.length:=PalE.Pal.diff_length l
theorem encB_short {l:List Int} (hl:l.length=64):(PalE.Pal.encB l).length≤200:=by
 unfold PalE.Pal.encB
 rw [if_neg (by omega)]
 unfold PalE.Pal.packB
 split
 · simp
 · split
   · simp
   · unfold PalE.Pal.packMain PalE.Pal.packs
     have h:=diff_short l
     have hw:PalE.Pal.width (PalE.Pal.diff l).length≤8:=by unfold PalE.Pal.width;repeat (split <;> try omega)
     have h2:l.length * PalE.Pal.width (PalE.Pal.diff l).length≤64 * 8:=by rw [hl];exact Nat.mul_le_mul_left _ hw
     simp only [List.length_cons,List.length_append,List.length_map,List.length_range]
     omega
theorem byt_encB {l:List Int} (hl:l.length=64) (hb:Byt l):Byt (PalE.Pal.encB l):=by
 unfold PalE.Pal.encB
 rw [if_neg (by omega)]
 unfold PalE.Pal.packB
 split
 · intro x hx;simp at hx
 · split
   · intro x hx;simp at hx;omega
   · rename_i hbad hne
     have hd:=diff_short l
     intro x hx
     unfold PalE.Pal.packMain at hx
     simp only [List.mem_cons,List.mem_append] at hx
     rcases hx with rfl | rfl | hx | hx
     · omega
     · omega
     · exact hb x ((PalE.Pal.mem_diff l x).1 hx)
     · unfold PalE.Pal.packs at hx
       obtain ⟨j,hj,rfl⟩:=List.mem_map.1 hx
       have hj:=List.mem_range.1 hj
       by_cases h1:1<(PalE.Pal.diff l).length
       · have hwd:=PalE.Pal.width_wd h1
         have hlt:=PalE.Pal.byt_lt _ (fun i=>(PalE.Pal.diff l).idxOf (l.getD i 0)) hwd l.length (fun i hi=>by
          have hm:l.getD i 0∈PalE.Pal.diff l:=(PalE.Pal.mem_diff l _).2 (by rw [List.getD_eq_getElem?_getD,List.getElem?_eq_getElem hi];exact List.getElem_mem hi)
          have:=List.idxOf_lt_length_of_mem hm
          have:=PalE.Pal.width_fits (m:=(PalE.Pal.diff l).length) (by omega)
          omega) j
         omega
       · have:PalE.Pal.width (PalE.Pal.diff l).length=0:=by unfold PalE.Pal.width;rw [if_pos (by omega)]
         rw [this] at hj
         omega
def digT (kc:List Int):Tr→List Int
 | .uni c=>dig kc 1 [vi (2 * c.toNat)]
 | .brick l=>dig kc 2 [PalE.Pal.encB l]
 | .node d ch=>dig kc 3 (vi (2 * d)::List.ofFn fun i=>digT kc (ch i))
theorem digT_len (kc:List Int) (t:Tr):(digT kc t).length=16:=by cases t <;> (unfold digT;exact dig_len _ _ _)
theorem byt_digT (kc:List Int) (t:Tr):Byt (digT kc t):=by cases t <;> (unfold digT;exact byt_dig _ _ _)
def kidsD (kc:List Int) (ch:Fin 8→Tr):List (List Int):=List.ofFn fun i=>digT kc (ch i)
def partsD (kc:List Int) (d:Nat) (ch:Fin 8→Tr) (k:Nat):List (List Int):=vi (2 * d)::(kidsD kc ch).take k
theorem kidsD_len (kc:List Int) (ch:Fin 8→Tr):(kidsD kc ch).length=8:=List.length_ofFn
theorem partsD_snoc (kc:List Int) (d:Nat) (ch:Fin 8→Tr) {k:Nat} (hk:k<8):partsD kc d ch (k+1)=partsD kc d ch k++[digT kc (ch ⟨k,hk⟩)]:=by
 unfold partsD
 rw [List.take_succ_eq_append_getElem (by rw [kidsD_len];exact hk),List.cons_append]
 congr 3
 unfold kidsD
 rw [List.getElem_ofFn]
theorem partsD_len (kc:List Int) (d:Nat) (ch:Fin 8→Tr) {k:Nat} (hk:k≤8):(partsD kc d ch k).length=k+1:=by
 unfold partsD;rw [List.length_cons,List.length_take,kidsD_len];omega
theorem partsD_all (kc:List Int) (d:Nat) (ch:Fin 8→Tr):dig kc 3 (partsD kc d ch 8)=digT kc (.node d ch):=by
 unfold partsD
 rw [List.take_of_length_le (by rw [kidsD_len];exact Nat.le_refl _)]
 conv=>rhs;unfold digT
 rfl
theorem partsD_ok (kc:List Int) {d:Nat} (ch:Fin 8→Tr) (hd:d≤1000):Parts (partsD kc d ch 8):=by
 refine ⟨fun q hq=>?_,fun q hq=>?_,by rw [partsD_len _ _ _ (Nat.le_refl _)];omega⟩
 all_goals
  unfold partsD at hq
  rcases List.mem_cons.1 hq with rfl | hq
 · exact byt_vi _
 · obtain ⟨i,rfl⟩:=List.mem_ofFn.1 (List.mem_of_mem_take hq)
   exact byt_digT _ _
 · have:=vi_le (2 * d) (by omega);omega
 · obtain ⟨i,rfl⟩:=List.mem_ofFn.1 (List.mem_of_mem_take hq)
   rw [digT_len];omega
end Go.Proofs.YtgnfgblkpnfcnaaGreatDoor
end
section
namespace Go.Proofs.YtgnfgblkpnfcnaaGreatDoor
open Go.RowKit Go.Sort Go.Maps
open Oct
noncomputable def cellL (s:Int→Bool) (N:Nat) (f:Pt→Int) (k:Int) (p:Pt):Int :=
 if 0≤k∧k≤(N:Int)∧inB p (cubeB (2 ^ (N+2)))=true then lvlF s f k.toNat ⟨p.x / 2 ^ k.toNat,p.y / 2 ^ k.toNat,p.z / 2 ^ k.toNat⟩ else 0
theorem lvX_all {s:Int→Bool} {N:Nat} {f:Pt→Int} {ts:List Tr} (hm:trF N f∈ts) {k:Nat} (hk:k≤N):lvX s N f ts k=(idT (lvS s N f ts N) (trF (N - k) (lvlF s f k)):Int):=by
 unfold lvX idn
 rw [idT_prefix (lvS_pre (j:=k) (k:=N) hk) (lvS_mem hm (Nat.le_refl k))]
theorem lv_Cell_any (s:Int→Bool) (N:Nat) (hN:N≤12) (f:Pt→Int) (hf:FnC N f) (sb:Nat) (most:Int) (Far:Nat→Prop) (ts:List Tr) (hG:Good ts) (hm:trF N f∈ts) (hlen:(lvS s N f ts N).length≤1000000000000) (a:Option Addr) (cap:Nat) (k x y z:Int) (hx:W64 x) (hy:W64 y) (hz:W64 z) (w:World)
 (hS:StoreIs w Far sb most (lvS s N f ts N)) (hs:Sl w .i64 a ((List.range (N+1)).map (lvX s N f ts))) :
 Calls Tryz.prog 17 #[.pointer (some ⟨sb,0,none⟩),.slice a (N+1) cap,k,.agg #[x,y,z]] w fun e w'=>e = .returned (.int .i64 (cellL s N f k ⟨x,y,z⟩))∧Below w.heap.size w w':=by
 by_cases h0:k<0
 · have:cellL s N f k ⟨x,y,z⟩=0:=by unfold cellL;rw [if_neg (by omega)]
   rw [this]
   exact lv_cell_neg sb a cap (N+1) k x y z w (by omega) h0
 · by_cases h1:((N+1:Nat):Int)≤k
   · have:cellL s N f k ⟨x,y,z⟩=0:=by unfold cellL;rw [if_neg (by omega)]
     rw [this]
     exact lv_cell_big sb a cap (N+1) k x y z w (by omega) (by omega) h1
   · cases hI:inB ⟨x,y,z⟩ (cubeB (2 ^ (N+2))) with
     | false =>
       have:cellL s N f k ⟨x,y,z⟩=0:=by unfold cellL;rw [if_neg (by rw [hI];simp)]
       rw [this]
       exact lv_cell_out sb a cap (N+1) k x y z w (by omega) (by omega) (by omega) hx hy hz hI
     | true =>
       obtain ⟨j,rfl⟩ : ∃ j:Nat,k=(j:Int):=⟨k.toNat,by omega⟩
       have hj:j≤N:=by omega
       have hc:cellL s N f (j:Int) ⟨x,y,z⟩=lvlF s f j ⟨x / 2 ^ j,y / 2 ^ j,z / 2 ^ j⟩:=by unfold cellL;rw [if_pos ⟨by omega,by omega,hI⟩,Int.toNat_natCast]
       rw [hc]
       refine lv_cell_in sb a cap (N+1) j (lvX s N f ts j) _ x y z w (by omega) (by omega) _ (by rw [List.getElem?_map,List.getElem?_range (by omega)];rfl) hs hx hy hz hI ⟨fun W hb=>?_⟩
       rw [lvX_all hm hj,show ((N+1+1 - j:Nat):Int)=((N - j:Nat):Int)+2 by omega]
       exact get_fn W Far sb most (lvS s N f ts N) (N - j) (lvlF s f j) (by omega) (lvl_fn hf j hj) (lvS_good hN hf hG N (Nat.le_refl N)) hlen (lvS_mem hm hj) _ _ _ (hS.later hb)
end Go.Proofs.YtgnfgblkpnfcnaaGreatDoor
end
section
namespace Go.Proofs.YtgnfgblkpnfcnaaGreatDoor
open Go.RowKit Go.Sort Go.Maps
open Oct
def mAir:Mat:=⟨⟨#[97,105,114]⟩,false,false,false,1,0,0,0⟩
def defL:List Mat:=[mAir,⟨⟨#[115,116,111,110,101]⟩,true,false,false,16,0,0,0⟩,⟨⟨#[103,108,97,115,115]⟩,true,false,false,1,0,0,0⟩,⟨⟨#[108,97,109,112]⟩,true,false,false,16,15,14,10⟩,
 ⟨⟨#[115,97,110,100]⟩,true,false,true,16,0,0,0⟩,⟨⟨#[119,97,116,101,114]⟩,false,true,false,3,0,0,0⟩,⟨⟨#[108,101,97,118,101,115]⟩,true,false,false,2,0,0,0⟩,⟨⟨#[101,109,98,101,114]⟩,true,false,false,16,9,3,0⟩,⟨⟨#[102,111,103]⟩,false,false,false,2,0,0,0⟩]
set_option maxRecDepth 100000 in
set_option maxHeartbeats 1000000 in
theorem lv_air (w:World):Calls Tryz.prog 73 #[] w fun e w'=>e = .returned (.agg mAir.cells.toArray)∧Below w.heap.size w w':=by
 go_enter Tryz.func73,Tryz.ntmps73
 go_wp2_with fail
 exact bodyPost_ret (v:=.agg mAir.cells.toArray) (results_cell_row rfl _ _ w.heap.size 95 mAir.cells.toArray (0,0) _ rfl (blk_new _ _ _ rfl) Tryz.underlying95 rfl (by kernel_rfl)) rfl ⟨rfl,(Below.refl _ _).alloc (Nat.le_refl _) _⟩
set_option maxRecDepth 100000 in
set_option maxHeartbeats 1000000 in
theorem lv_at12 (x y z:Int) (w:World):Calls Tryz.prog 28 #[x,y,z] w fun e w'=>e = .returned (.agg #[x,y,z])∧Below w.heap.size w w':=by
 go_enter Tryz.func28,Tryz.ntmps28
 go_wp2_with fail
 exact bodyPost_ret (v:=.agg #[x,y,z]) (results_cell_row rfl _ _ w.heap.size 23 #[x,y,z] (0,0) _ rfl (blk_new _ _ _ rfl) Tryz.underlying23 rfl (by kernel_rfl)) rfl ⟨rfl,(Below.refl _ _).alloc (Nat.le_refl _) _⟩
def defCells:List Value:=defL.flatMap Mat.cells
theorem defCells_at : ∀ (i:Nat) (m:Mat),defL[i]? = some m → ∀ j u,m.cells[j]? = some u→defCells[i * 8+j]? = some u:=by
 intro i m hm j u hu
 have hi:i<9:=(List.getElem?_eq_some_iff.1 hm).1
 have hj:j<8:=(List.getElem?_eq_some_iff.1 hu).1
 match i,hi with
 | 0,_=>obtain rfl:=Option.some.inj hm;rw [←hu];match j,hj with | 0,_ | 1,_ | 2,_ | 3,_ | 4,_ | 5,_ | 6,_ | 7,_=>rfl
 | 1,_=>obtain rfl:=Option.some.inj hm;rw [←hu];match j,hj with | 0,_ | 1,_ | 2,_ | 3,_ | 4,_ | 5,_ | 6,_ | 7,_=>rfl
 | 2,_=>obtain rfl:=Option.some.inj hm;rw [←hu];match j,hj with | 0,_ | 1,_ | 2,_ | 3,_ | 4,_ | 5,_ | 6,_ | 7,_=>rfl
 | 3,_=>obtain rfl:=Option.some.inj hm;rw [←hu];match j,hj with | 0,_ | 1,_ | 2,_ | 3,_ | 4,_ | 5,_ | 6,_ | 7,_=>rfl
 | 4,_=>obtain rfl:=Option.some.inj hm;rw [←hu];match j,hj with | 0,_ | 1,_ | 2,_ | 3,_ | 4,_ | 5,_ | 6,_ | 7,_=>rfl
 | 5,_=>obtain rfl:=Option.some.inj hm;rw [←hu];match j,hj with | 0,_ | 1,_ | 2,_ | 3,_ | 4,_ | 5,_ | 6,_ | 7,_=>rfl
 | 6,_=>obtain rfl:=Option.some.inj hm;rw [←hu];match j,hj with | 0,_ | 1,_ | 2,_ | 3,_ | 4,_ | 5,_ | 6,_ | 7,_=>rfl
 | 7,_=>obtain rfl:=Option.some.inj hm;rw [←hu];match j,hj with | 0,_ | 1,_ | 2,_ | 3,_ | 4,_ | 5,_ | 6,_ | 7,_=>rfl
 | 8,_=>obtain rfl:=Option.some.inj hm;rw [←hu];match j,hj with | 0,_ | 1,_ | 2,_ | 3,_ | 4,_ | 5,_ | 6,_ | 7,_=>rfl
set_option maxRecDepth 100000 in
set_option maxHeartbeats 4000000 in
theorem lv_default (w:World):Calls Tryz.prog 34 #[] w fun e w' => ∃ g,e = .returned (.slice (some ⟨g,0,none⟩) 9 9)∧SlM w' (some ⟨g,0,none⟩) defL∧Below w.heap.size w w'∧w.heap.size≤g:=by
 have h0:=Bx.mk fun W=>lv_air W
 go_enter Tryz.func34,Tryz.ntmps34
 go_wp2_with fail
 refine (h0.out _).mono ?_
 rintro _ w1 ⟨rfl,hb⟩
 clear h0
 unfold Mat.cells mAir
 simp only
 go_wp2_with fail
 go_ret
 refine ⟨_,rfl,?_,hb.alloc hb.size _,hb.size⟩
 intro i m hm
 refine ⟨_,0,rfl,fun j u hu=>?_⟩
 have h:=defCells_at i m hm j u hu
 rw [Nat.zero_add]
 have hk:Bk (w1.alloc (.cells defCells.toArray 95)) w1.heap.size defCells.toArray 95:=blk_new _ _ _ rfl
 exact hk.cell (i * 8+j) (by simpa using h)
end Go.Proofs.YtgnfgblkpnfcnaaGreatDoor
end
section
namespace Go.Proofs.YtgnfgblkpnfcnaaGreatDoor
open Go.RowKit
open Oct
def cF:Pt→Int:=fun p=>if inB p (cubeB 16)=true then 1 else 0
theorem cF_fn:FnC 2 cF:=by
 refine ⟨fun p=>?_,fun p hp=>?_⟩
 · unfold cF;split <;> decide
 · unfold cF;rw [if_neg]
   intro h
   have:cubeB (2 ^ (2+2))=cubeB 16:=by decide
   rw [this,h] at hp;cases hp
theorem cF_tr:trF 2 cF = .uni 1:=can_const 2 _ _ (al0 2) fun p hp=>by
 have:=in_of_inC (n:=2) hp
 unfold cF
 rw [show cubeB 16=cubeB (2 ^ (2+2)) by decide,if_pos this]
theorem lvl_uni {s:Int→Bool} {N:Nat} {f:Pt→Int} {c:Int} (h:trF N f = .uni c) : ∀ k,k≤N→trF (N - k) (lvlF s f k) = .uni c
 | 0,_=>h
 | k + 1, hk => by
   rw [←lvl_half s f (by omega),lvl_uni h k (by omega)];rfl
theorem lvS_uni {s:Int→Bool} {N:Nat} {f:Pt→Int} {c:Int} (h:trF N f = .uni c) {ts:List Tr} (hm:Tr.uni c∈ts) : ∀ k,k≤N→lvS s N f ts k=ts
 | 0,_=>rfl
 | k + 1, hk => by
   show Tr.add (trF (N - (k+1)) (lvlF s f (k+1))) (lvS s N f ts k)=ts
   rw [lvl_uni h (k+1) hk,lvS_uni h hm k (by omega),Tr.add_same _ _ hm]
def b8:Box:=⟨⟨0,0,0⟩,⟨8,8,4⟩⟩
def x8:List Int:=List.replicate 256 1
def g8:Pt→Int:=cellG b8 x8
theorem g8_good (hcp:Nat) (h:256≤hcp):GoodG b8 x8 hcp :=
 ⟨by constructor <;> decide,by decide +kernel,by unfold x8;rw [List.length_replicate];decide,fun x hx=>by rw [List.eq_of_mem_replicate hx];decide,by unfold x8;rw [List.length_replicate];exact h⟩
theorem g8_valid:validG b8 x8=true:=by decide +kernel
theorem g8_in:containsB ⟨⟨0,0,0⟩,⟨2 ^ (1+2),2 ^ (1+2),2 ^ (1+2)⟩⟩ b8=true:=by decide +kernel
theorem g8_fn:FnC 1 g8:=grid_fn (g8_good 256 (Nat.le_refl _)) (.inr g8_in)
theorem g8_one {p:Pt} (h:inB p b8=true):g8 p=1:=by
 unfold g8 cellG
 rw [if_pos h]
 have hl:=inB_iff.1 h
 unfold indexB
 rw [if_pos h]
 unfold x8
 rw [List.getD_eq_getElem?_getD,List.getElem?_replicate,if_pos]
 · rfl
 · have hs:sizeB b8=⟨8,8,4⟩:=by decide
   rw [hs]
   simp only [b8] at hl ⊢
   omega
theorem g8_zero {p:Pt} (h:inB p b8=false):g8 p=0:=by unfold g8 cellG;rw [if_neg (by simp [h])]
theorem g8_half1 (s:Int→Bool):lvlF s g8 1 ⟨2,1,1⟩=1:=by
 show pickV s (eightF g8 ⟨2,1,1⟩)=1
 refine pickV_const s (eight_len _ _) fun x hx=>?_
 obtain ⟨q,rfl,h1,h2,h3⟩:=mem_eight hx
 exact g8_one (inB_iff.2 (by simp only [b8];simp only at h1 h2 h3;omega))
theorem g8_half0 (s:Int→Bool):lvlF s g8 1 ⟨2,1,2⟩=0:=by
 show pickV s (eightF g8 ⟨2,1,2⟩)=0
 refine pickV_const s (eight_len _ _) fun x hx=>?_
 obtain ⟨q,rfl,h1,h2,h3⟩:=mem_eight hx
 refine g8_zero ?_
 cases h:inB q b8 with
 | false=>rfl
 | true =>
   have hl:=inB_iff.1 h
   simp only [b8] at hl
   simp only at h3
   omega
def p8 (a b c d e f g h:Int):Nat→Int
 | 0=>a | 1=>b | 2=>c | 3=>d | 4=>e | 5=>f | 6=>g | 7=>h | _=>0
theorem l8_p8 (a b c d e f g h:Int):l8 (p8 a b c d e f g h)=[a,b,c,d,e,f,g,h]:=by simp [l8,List.range,List.range.loop,p8]
instance (s:Int→Bool) (l:List Int) (r:Int):Decidable (r∈l∧s r=decide (4≤l.countP s) ∧ ∀ d∈l,s d=decide (4≤l.countP s)→l.count d<l.count r∨(l.count d=l.count r∧r≤d)):=inferInstance
theorem pick1:pickV (solT defL) (l8 (p8 1 1 2 2 0 0 0 0))=1:=by
 rw [l8_p8]
 refine (pickV_eq (by rfl) ⟨?_,?_,?_⟩).symm
 all_goals decide +kernel
theorem pick2:pickV (solT defL) (l8 (p8 1 1 2 2 2 5 5 5))=2:=by
 rw [l8_p8]
 refine (pickV_eq (by rfl) ⟨?_,?_,?_⟩).symm
 all_goals decide +kernel
theorem pick3:pickV (solT defL) (l8 (p8 1 1 1 5 5 0 0 5))=5:=by
 rw [l8_p8]
 refine (pickV_eq (by rfl) ⟨?_,?_,?_⟩).symm
 all_goals decide +kernel
theorem lvl_few {s:Int→Bool} {N:Nat} {f:Pt→Int} (hN:N≤12) (hf:FnC N f) {ts:List Tr} (hG:Good ts):(lvS s N f ts N).length≤ts.length+N * (addn N f []).length:=lvS_len hN hf hG N (Nat.le_refl N)
end Go.Proofs.YtgnfgblkpnfcnaaGreatDoor
end
section
namespace Go.Proofs.YtgnfgblkpnfcnaaGreatDoor
open Go.RowKit Go.Sort Go.Maps
open Oct
abbrev Stays (Far:Nat→Prop) (P:World→Prop):Prop := ∀ a b,Keeps Far a b→P a→P b
theorem Bk.keeps {w w':World} {Far:Nat→Prop} {g:Nat} {cs:Array Value} {t:TypeId} (h:Bk w g cs t) (hk:Keeps Far w w') (hf:Far g):Bk w' g cs t:=by
 unfold Bk;rw [hk.block g hf h.lt];exact h
end Go.Proofs.YtgnfgblkpnfcnaaGreatDoor
end
section
namespace Go.Proofs.YtgnfgblkpnfcnaaGreatDoor
open Go.RowKit Go.Sort Go.Maps
open Oct
structure InT (N n:Nat) (a:Pt):Prop where
 le:n≤N
 al:Tr.Al n a
 x:0≤a.x∧a.x+2 ^ (n+2)≤2 ^ (N+2)
 y:0≤a.y∧a.y+2 ^ (n+2)≤2 ^ (N+2)
 z:0≤a.z∧a.z+2 ^ (n+2)≤2 ^ (N+2)
theorem InT.kid {N n:Nat} {a:Pt} (h:InT N (n+1) a) {i:Nat} (hi:i<8):InT N n (Tr.cor a n i):=by
 have hp:=Tr.pow_pos2 n
 have hp2:=Tr.pow_succ2 n
 obtain ⟨c1,c2,c3⟩:=ch_bd hi (m:=2 ^ (n+2)) (by omega)
 obtain ⟨h1,h2,h3,h4,h5⟩:=h
 refine ⟨by omega,Tr.al_cor h2 i,?_,?_,?_⟩
 all_goals
  rw [cor_at]
  simp only []
  omega
theorem InT.bd {N n:Nat} {a:Pt} (hN:N≤12) (h:InT N n a):(0≤a.x∧a.x≤16384)∧(0≤a.y∧a.y≤16384)∧(0≤a.z∧a.z≤16384):=by
 have hp:=(pow_le (show N+2≤14 by omega)).2
 have hp2:=Tr.pow_pos2 n
 obtain ⟨h1,h2,h3,h4,h5⟩:=h
 omega
attribute [local go_sem ↓] Go.wp_at_zero Go.wp_at_succ
end Go.Proofs.YtgnfgblkpnfcnaaGreatDoor
end
section
namespace Go.Proofs.YtgnfgblkpnfcnaaGreatDoor
open Go.RowKit Go.Sort Go.Maps
open Oct
abbrev cubeAtB (n:Nat) (a:Pt):Box:=⟨⟨a.x,a.y,a.z⟩,⟨a.x+2 ^ (n+2),a.y+2 ^ (n+2),a.z+2 ^ (n+2)⟩⟩
theorem InT.cube {N n:Nat} {a:Pt} (h:InT N n a) {p:Pt} (hp:Tr.InC n a p):inB p (cubeAtB n a)=true:=inC_cube rfl (show Tr.Al n ⟨a.x,a.y,a.z⟩ from h.al) hp
theorem InT.whole {N n:Nat} {a:Pt} (h:InT N n a) {p:Pt} (hp:Tr.InC n a p):inB p (wholeB N)=true:=by
 have h1:=inB_iff.1 (h.cube hp)
 simp only [] at h1
 obtain ⟨-,-,x,y,z⟩:=h
 exact inB_iff.2 ⟨by show (0:Int)≤_;omega,by show _<(2:Int) ^ (N+2);omega,by show (0:Int)≤_;omega,by show _<(2:Int) ^ (N+2);omega,by show (0:Int)≤_;omega,by show _<(2:Int) ^ (N+2);omega⟩
theorem InT.far {N n:Nat} {a:Pt} (hN:N≤12) (h:InT N n a):(-100000≤a.x∧a.x≤100000)∧(-100000≤a.y∧a.y≤100000)∧(-100000≤a.z∧a.z≤100000):=by
 have:=h.bd hN
 omega
end Go.Proofs.YtgnfgblkpnfcnaaGreatDoor
end
section
namespace Go.Proofs.YtgnfgblkpnfcnaaGreatDoor
open Go.RowKit Go.Sort Go.Maps
open Oct
theorem copied {w:World} {g Bd n cap:Nat} {xs zs:List Int} {cur:List Value} (h1:w.heap[g]? = some (.cells cur.toArray 3 (0,0))) (h2:cur.length=cap) (h4:n≤cap) (h5:cap≤maxLen) (h6:Bd≤g) (hz:zs.length=n) :
 Own (w.setRow g (zs.map (Value.int .i64)++cur.drop zs.length).toArray) Bd 3 .i64 (.slice (some ⟨g,0,none⟩) n cap) zs∧Keeps (fun k=>k<Bd) w (w.setRow g (zs.map (Value.int .i64)++cur.drop zs.length).toArray):=by
 refine ⟨Own.mk' (cur:=zs.map (Value.int .i64)++cur.drop n) ?_ ?_ ?_ h4 h5 h6 hz.symm,⟨rfl,rfl,rfl,by simp [World.setRow],fun k hk _=>setRow_other w g k _ (by omega)⟩⟩
 · rw [setRow_heap w g _ _ 3 _ h1,hz]
 · simp;omega
 · rw [List.take_append_of_le_length (by simp;omega),List.take_of_length_le (by simp;omega)]
end Go.Proofs.YtgnfgblkpnfcnaaGreatDoor
end
section
namespace Go.Proofs.YtgnfgblkpnfcnaaGreatDoor
open Go.RowKit Go.Sort Go.Maps
open Oct
structure PasteP (gb gd:Nat) (a b c d e f:Int) (ha:Option Addr) (hcp:Nat) (ys:List Int) (w:World):Prop where
 kb:Bk w gb #[a,b,c,d,e,f,.slice ha ys.length hcp] 28
 kd:Bk w gd #[a,b,c,d,e,f] 25
 sl:Sl w .i64 ha ys
abbrev PasteF (gb gd:Nat) (ha:Option Addr) (ys:List Int):Nat→Prop:=fun x=>x=gb∨x=gd∨(ys ≠ []∧ha.map (·.block)=some x)
theorem PasteP.stays (gb gd:Nat) (a b c d e f:Int) (ha:Option Addr) (hcp:Nat) (ys:List Int):Stays (PasteF gb gd ha ys) (PasteP gb gd a b c d e f ha hcp ys):=fun x y hk h =>
 ⟨h.kb.keeps hk (.inl rfl),h.kd.keeps hk (.inr (.inl rfl)),h.sl.far hk (fun hn b hb=>.inr (.inr ⟨hn,hb⟩))⟩
end Go.Proofs.YtgnfgblkpnfcnaaGreatDoor
end
section
namespace Go.Proofs.YtgnfgblkpnfcnaaGreatDoor
open Go.RowKit Go.Sort Go.Maps
open Oct
theorem Done.less {Far Far':Nat→Prop} {sb:Nat} {most:Int} {ts ts':List Tr} {t:Tr} {w w1 w':World} {e:Ending} (h:Done Far' sb most ts ts' t w1 e w') (hk:Keeps Far w w1) (hf : ∀ k,Far k→Far' k):Done Far sb most ts ts' t w e w':=by
 refine ⟨hk.trans (h.keeps.less hf),Nat.le_trans hk.size h.size,?_⟩
 rcases h.way with ⟨h1,h2,h3⟩ | ⟨h1,h2,h3⟩
 · exact .inl ⟨h1,h2,h3.less hf⟩
 · exact .inr ⟨h1,h2,h3.less hf⟩
end Go.Proofs.YtgnfgblkpnfcnaaGreatDoor
end
section
namespace Go.Proofs.YtgnfgblkpnfcnaaGreatDoor
open Go.RowKit Go.Sort
structure Chg where
 x:Int
 y:Int
 z:Int
 o:Int
 n:Int
abbrev Chg.at (c:Chg):Pt:=⟨c.x,c.y,c.z⟩
def Chg.cells (c:Chg):List Value:=[.int .i64 c.x,.int .i64 c.y,.int .i64 c.z,.int .i64 c.o,.int .i64 c.n]
def SlC (w:World) (a:Option Addr) (cs:List Chg):Prop := ∀ (i:Nat) (c:Chg),cs[i]? = some c → ∃ b off,a=some ⟨b,off,none⟩∧w.cell? ⟨b,off+i * 5,none⟩=some (.int .i64 c.x)∧w.cell? ⟨b,off+i * 5+1,none⟩=some (.int .i64 c.y)∧w.cell? ⟨b,off+i * 5+2,none⟩=some (.int .i64 c.z)∧w.cell? ⟨b,off+i * 5+3,none⟩=some (.int .i64 c.o)∧w.cell? ⟨b,off+i * 5+4,none⟩=some (.int .i64 c.n)
theorem SlC.of_block {w w':World} {a:Option Addr} {cs:List Chg} (h:SlC w a cs) (hb : ∀ b,a.map (·.block)=some b→b<w.heap.size→w'.heap[b]? = w.heap[b]?):SlC w' a cs:=by
 intro i c hc
 obtain ⟨b,off,rfl,c0,c1,c2,c3,c4⟩:=h i c hc
 have hh:=hb b rfl (World.block_lt_of_cell? w _ c0)
 exact ⟨b,off,rfl,(World.cell?_of_block hh).trans c0,(World.cell?_of_block hh).trans c1,(World.cell?_of_block hh).trans c2,(World.cell?_of_block hh).trans c3,(World.cell?_of_block hh).trans c4⟩
theorem SlC.below {w w':World} {a:Option Addr} {cs:List Chg} (h:SlC w a cs) (hb:Below w.heap.size w w'):SlC w' a cs:=h.of_block fun b _ hl=>hb.block b hl
theorem SlC.grown {w w':World} {a:Option Addr} {cs:List Chg} {g:Nat} (h:SlC w a cs) (hg:w.grownBy w' (some g)) (hne:a.map (·.block) ≠ some g):SlC w' a cs:=h.of_block fun b hb hl=>hg.block b hl (fun e=>hne (by rw [hb,e]))
end Go.Proofs.YtgnfgblkpnfcnaaGreatDoor
end
section
namespace Go.Proofs.YtgnfgblkpnfcnaaGreatDoor
open Go.RowKit Go.Sort Go.Maps
open Go.WideMaps (KeyLaw)
open Oct
theorem MapV.drewN {k:TypeId} {w:World} {b n:Nat} {f:Value→Option Value} (h:MapV k w b n f) (d:Nat):MapV k (w.drewN d) b n f:=h.of_block (by simp)
end Go.Proofs.YtgnfgblkpnfcnaaGreatDoor
end
section
namespace Go.Proofs.YtgnfgblkpnfcnaaGreatDoor
open Go.RowKit Go.Sort Go.Maps
open Oct
theorem ownsRow_below {w w':World} {B k n:Nat} {e:TypeId} {v:Value} {xs:List Value} (h:w.ownsRow B e k v n xs) (hb:Below w.heap.size w w'):w'.ownsRow B e k v n xs :=
 World.ownsRow.kept (row:=none) h ⟨hb.os,hb.tape,hb.output,hb.size,fun i hi _=>hb.block i hi⟩ (by cases v.ownBlock <;> simp)
theorem ownsRow_form {w:World} {B k n:Nat} {e:TypeId} {v:Value} {xs:List Value} (h:w.ownsRow B e k v n xs) : ∃ a c,v = .slice a n c∧n≤c∧(n=0 ∨ ∃ g,a=some ⟨g,0,none⟩∧B≤g∧g<w.heap.size) ∧ ∀ (j:Nat) u,xs[j]? = some u → ∃ g,a=some ⟨g,0,none⟩∧w.cell? ⟨g,j,none⟩=some u:=by
 rcases h.2 with ⟨rfl,rfl⟩ | ⟨g,cap,cur,rfl,hb,hg,hnc,hcm,hcs,ht⟩
 · refine ⟨none,0,rfl,Nat.le_refl _,.inl rfl,fun j u hj=>?_⟩
   have:=h.1
   rw [Nat.zero_mul] at this
   rw [List.eq_nil_of_length_eq_zero this] at hj
   simp at hj
 · refine ⟨_,cap,rfl,hnc,.inr ⟨g,rfl,hb,(Array.getElem?_eq_some_iff.1 hg).1⟩,fun j u hj=>⟨g,rfl,?_⟩⟩
   have hi:j<n * k:=by have:=(List.getElem?_eq_some_iff.1 hj).1;rw [h.1] at this;exact this
   have hcell:w.cell? ⟨g,j,none⟩=cur[j]? := by simp [World.cell?,hg]
   rw [hcell]
   rw [←ht,List.getElem?_take,if_pos hi] at hj
   simpa using hj
end Go.Proofs.YtgnfgblkpnfcnaaGreatDoor
end
section
namespace Go.Proofs.YtgnfgblkpnfcnaaGreatDoor
open Go.RowKit Go.Sort
def z16:List Int:=List.replicate 16 0
structure ShoI (w:World) (b o:Nat) (xs:List Int) (i:Nat) (wr:World):Prop where
 bel:Below w.heap.size w wr
 kr:Bl wr w.heap.size .u8 z16 43
 kb:Bl wr b .u8 xs 162
 ko:Bl wr o .u8 (xs.take i++List.replicate (16 - i) 0) 43
 ap:w.heap.size<b∧b<o
theorem ShoI.put {w wr:World} {b o:Nat} {xs:List Int} {i:Nat} {x:Int} (h:ShoI w b o xs i wr) (hi:i<16) (hx:xs[i]? = some x):ShoI w b o xs (i+1) (wr.setCell ⟨o,i,none⟩ (.int .u8 x)):=by
 have ha:=h.ap
 have hl:i<xs.length:=(List.getElem?_eq_some_iff.1 hx).1
 have hti:(xs.take i).length=i:=by rw [List.length_take];omega
 refine ⟨h.bel.setCell (by show w.heap.size≤o;omega) _,h.kr.other _ _ (by show w.heap.size ≠ o;omega),h.kb.other _ _ (by show b ≠ o;omega),?_,ha⟩
 have:=h.ko.put i x
 rw [show 16 - i=(16 - (i+1))+1 by omega,List.replicate_succ,List.set_append_right _ _ (by omega),hti,Nat.sub_self,List.set_cons_zero] at this
 obtain ⟨h1,rfl⟩:=List.getElem?_eq_some_iff.1 hx
 rw [List.take_succ_eq_append_getElem h1,List.append_assoc]
 exact this
theorem ShoI.at_ {w wr:World} {b o:Nat} {xs:List Int} {i:Nat} (h:ShoI w b o xs i wr) (hi:i<16) (hl:xs.length=32):wr.cell? ⟨o,i,none⟩=some (.int .u8 0) :=
 h.ko.cell (by
  have hti:(xs.take i).length=i:=by rw [List.length_take];omega
  rw [List.getElem?_append_right (by omega),hti,Nat.sub_self,show 16 - i=(16 - (i+1))+1 by omega,List.replicate_succ];rfl)
def DigPost (w:World) (xs:List Int) (e:Ending) (w':World):Prop:=e = .returned (arrV .u8 xs)∧Below w.heap.size w w'
end Go.Proofs.YtgnfgblkpnfcnaaGreatDoor
end
