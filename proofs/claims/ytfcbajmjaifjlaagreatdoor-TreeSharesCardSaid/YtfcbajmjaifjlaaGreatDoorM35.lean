/- EPal, Dgp, ET1, ET2, ET3, ET4: joined by program, for one claim. -/
import Derived.Test.YtfcbajmjaifjlaaGreatDoorM33
set_option maxHeartbeats 400000
set_option linter.unusedVariables false
set_option linter.unusedSimpArgs false
section
namespace Go.Proofs.YtfcbajmjaifjlaaGreatDoor.PalE.Pal
def add (p:List Int) (c:Int):List Int:=if c∈p then p else p++[c]
def diff (l:List Int):List Int:=l.foldl add []
theorem zKF (l:List Int) (c:Int):diff (l++[c])=add (diff l) c:=by simp [diff]
theorem diff_take (l:List Int) (k:Nat) (x:Int) (h:l[k]? = some x):diff (l.take (k+1))=add (diff (l.take k)) x:=by
 rw [List.take_add_one,h];exact zKF _ _
theorem zIp (p:List Int) (c:Int):(add p c).length≤p.length+1:=by
 unfold add;split <;> simp
theorem zGt (p:List Int) (c x:Int) (h:x∈p):x∈add p c:=by
 unfold add;split <;> simp_all
theorem diff_length_take (l:List Int) (k:Nat):(diff (l.take k)).length≤k:=by
 induction k with
 | zero=>simp [diff]
 | succ k ih =>
   cases h:l[k]? with
   | none =>
     rw [List.take_add_one,h];simp;omega
   | some x =>
     rw [diff_take l k x h];have:=zIp (diff (l.take k)) x;omega
theorem diff_length (l:List Int):(diff l).length≤l.length:=by
 have:=diff_length_take l l.length;simpa using this
def find (xs:List Int) (c:Int):Int:=if c∈xs then ((xs.idxOf c:Nat):Int) else -1
theorem find_pos {xs:List Int} {c:Int} (h:c∈xs):find xs c=((xs.idxOf c:Nat):Int):=if_pos h
theorem find_neg {xs:List Int} {c:Int} (h:c ∉ xs):find xs c = -1:=if_neg h
def width (m:Nat):Nat:=if m≤1 then 0 else if m≤2 then 1 else if m≤4 then 2 else if m≤16 then 4 else 8
def byt (w:Nat) (f:Nat→Nat):Nat→Nat→Nat
 | 0,_=>0
 | k+1,j=>byt w f k j+if k * w / 8=j then f k * 2 ^ (k * w % 8) else 0
def packs (w:Nat) (f:Nat→Nat) (n:Nat):List Int:=(List.range ((n * w+7) / 8)).map fun j=>(byt w f n j:Int)
def Wd (w:Nat):Prop:=w=1∨w=2∨w=4∨w=8
theorem byt_lt (w:Nat) (f:Nat→Nat) (hw:Wd w) : ∀ k,(∀ i,i<k→f i<2 ^ w) → ∀ j,
 (k * w≤8 * j→byt w f k j=0)∧(8 * j<k * w→k * w≤8 * j+8→byt w f k j<2 ^ (k * w - 8 * j))∧byt w f k j<256:=by
 intro k
 induction k with
 | zero=>intro _ j;simp [byt]
 | succ k ih =>
   intro hf j;obtain ⟨h1,h2,h3⟩:=ih (fun i hi=>hf i (by omega)) j
   have hk:=hf k (by omega)
   unfold byt;rcases hw with rfl | rfl | rfl | rfl
   · by_cases hj:k * 1 / 8=j
     · rw [if_pos hj];have:k * 1 % 8=0∨k * 1 % 8=1∨k * 1 % 8=2∨k * 1 % 8=3∨k * 1 % 8=4∨k * 1 % 8=5∨k * 1 % 8=6∨k * 1 % 8=7:=by omega
       by_cases h0:k * 1≤8 * j
       · have hb:=h1 h0;have hs:k * 1 % 8=0:=by omega
         have he:(k+1) * 1 - 8 * j=1:=by omega
         rw [hb,hs,he];simp at hk ⊢; omega
       · have hb:=h2 (by omega) (by omega)
         have he:(k+1) * 1 - 8 * j=k * 1 % 8+1:=by omega
         have he':k * 1 - 8 * j=k * 1 % 8:=by omega
         rw [he] ; rw [he'] at hb;rcases this with hs | hs | hs | hs | hs | hs | hs | hs <;> rw [hs] at hb ⊢ <;> simp at hk hb ⊢ <;> omega
     · rw [if_neg hj];refine ⟨fun h=>by simpa using h1 (by omega),fun ha hb=>?_,by simpa using h3⟩
       have:=h2 (by omega) (by omega)
       omega
   · by_cases hj:k * 2 / 8=j
     · rw [if_pos hj];have:k * 2 % 8=0∨k * 2 % 8=2∨k * 2 % 8=4∨k * 2 % 8=6:=by omega
       by_cases h0:k * 2≤8 * j
       · have hb:=h1 h0;have hs:k * 2 % 8=0:=by omega
         have he:(k+1) * 2 - 8 * j=2:=by omega
         rw [hb,hs,he];simp at hk ⊢; omega
       · have hb:=h2 (by omega) (by omega)
         have he:(k+1) * 2 - 8 * j=k * 2 % 8+2:=by omega
         have he':k * 2 - 8 * j=k * 2 % 8:=by omega
         rw [he] ; rw [he'] at hb;rcases this with hs | hs | hs | hs <;> rw [hs] at hb ⊢ <;> simp at hk hb ⊢ <;> omega
     · rw [if_neg hj];refine ⟨fun h=>by simpa using h1 (by omega),fun ha hb=>?_,by simpa using h3⟩
       omega
   · by_cases hj:k * 4 / 8=j
     · rw [if_pos hj];have:k * 4 % 8=0∨k * 4 % 8=4:=by omega
       by_cases h0:k * 4≤8 * j
       · have hb:=h1 h0;have hs:k * 4 % 8=0:=by omega
         have he:(k+1) * 4 - 8 * j=4:=by omega
         rw [hb,hs,he];simp at hk ⊢; omega
       · have hb:=h2 (by omega) (by omega)
         have he:(k+1) * 4 - 8 * j=k * 4 % 8+4:=by omega
         have he':k * 4 - 8 * j=k * 4 % 8:=by omega
         rw [he] ; rw [he'] at hb;rcases this with hs | hs <;> rw [hs] at hb ⊢ <;> simp at hk hb ⊢ <;> omega
     · rw [if_neg hj];refine ⟨fun h=>by simpa using h1 (by omega),fun ha hb=>?_,by simpa using h3⟩
       omega
   · by_cases hj:k * 8 / 8=j
     · rw [if_pos hj];have hs:k * 8 % 8=0:=by omega
       have hb:=h1 (by omega)
       have he:(k+1) * 8 - 8 * j=8:=by omega
       rw [hb,hs,he];simp at hk ⊢; omega
     · rw [if_neg hj];refine ⟨fun h=>by simpa using h1 (by omega),fun ha hb=>?_,by simpa using h3⟩
       omega
def cell (c:Int):Bool:=decide (0≤c) && decide (c≤255)
def bytes (w:Nat) (f:Nat→Nat) (k m:Nat):List Int:=(List.range m).map fun j=>(byt w f k j:Int)
def bad (cells:List Int):Bool := !cells.all cell || decide (64<cells.length)
def packMain (cells:List Int):List Int:=(cells.length:Int)::((diff cells).length:Int)::(diff cells++packs (width (diff cells).length) (fun i=>(diff cells).idxOf (cells.getD i 0)) cells.length)
def packB (cells:List Int):List Int:=if bad cells then [] else if cells.length=0 then [0] else packMain cells
def packE (cells:List Int):Int:=if bad cells then 1 else 0
theorem packB_bad {cells:List Int} (h:bad cells=true):packB cells=[]:=by simp [packB,h]
theorem packE_bad {cells:List Int} (h:bad cells=true):packE cells=1:=by simp [packE,h]
theorem packE_good {cells:List Int} (h:bad cells=false):packE cells=0:=by simp [packE,h]
theorem packB_nil {cells:List Int} (h:bad cells=false) (h0:cells.length=0):packB cells=[0]:=by simp [packB,h,h0]
theorem packB_main {cells:List Int} (h:bad cells=false) (h0 : ¬cells.length=0):packB cells=packMain cells:=by simp [packB,h,h0]
theorem zEi (l:List Int) : ∀ (p:List Int) (c:Int),c∈l.foldl add p ↔ c∈p∨c∈l:=by
 induction l with
 | nil=>simp
 | cons x l ih =>
   intro p c;rw [List.foldl_cons,ih];unfold add;split <;> simp_all <;> grind
theorem mem_diff (l:List Int) (c:Int):c∈diff l ↔ c∈l:=by simp [diff,zEi]
theorem width_wd {m:Nat} (h:1<m):Wd (width m):=by
 unfold Wd width
 repeat (split <;> try omega)
theorem width_fits {m:Nat} (h:m≤64):m≤2 ^ width m:=by
 unfold width
 repeat (split <;> try omega)
def dg (t:List Int) (w i:Nat):Option (Nat × Nat) :=
 if w=0 then some (0,0) else (t[i * w / 8]?).map fun b=>(b.toNat / 2 ^ (i * w % 8) % 2 ^ w,b.toNat / 2 ^ (i * w % 8) / 2 ^ w)
def nxt (seen x:Nat):Nat:=if x=seen then seen+1 else seen
def encB (cells:List Int):List Int:=if cells.length ≠ 64 then [] else packB cells
def encE (cells:List Int):Int:=if cells.length ≠ 64 then 1 else packE cells
def brick (l:List Int):Bool:=decide (l.length=64) && l.all cell
def bit (t:List Int) (i:Nat):Nat:=(t.getD (i / 8) 0).toNat / 2 ^ (i % 8) % 2
def st (old t cells:List Int):Nat→Option (Nat × List Int)
 | 0=>some (0,[])
 | i + 1 =>
   match st old t cells i with
   | none=>none
   | some (k, out) =>
     if bit t i=0 then some (k,out++[old.getD i 0])
     else match cells[k]? with
      | none=>none
      | some c=>if c=old.getD i 0 then none else some (k+1,out++[c])
end Go.Proofs.YtfcbajmjaifjlaaGreatDoor.PalE.Pal
namespace Go.Proofs.YtfcbajmjaifjlaaGreatDoor
open Go.RowKit Go.Sort
open Oct
theorem zEu (kc:List Int) (tag:Int) (ps:List (List Int)):(dig kc tag ps).length=16:=by
 unfold dig;rw [List.length_take,show (sha kc (zGA tag ps)).length=32 from zGQ _];rfl
theorem zOP (kc:List Int) (tag:Int) (ps:List (List Int)):Byt (dig kc tag ps):=(zOO _).take 16
theorem zFS {p:List Int} (h:Byt p) (hl:p.length≤1000):Parts [p] :=
 ⟨fun q hq=>by rw [List.mem_singleton.1 hq];exact h,fun q hq=>by rw [List.mem_singleton.1 hq];exact hl,by simp⟩
theorem zJG (w:World) (p:List Int) (t:TypeId):Slv (w.alloc (.cells #[.string (strOfNums p)] t)) (some ⟨w.heap.size,0,none⟩) (zBR [p]):=by
 intro i v hv
 match i with
 | 0 =>
   simp [zBR] at hv;subst hv;exact ⟨_,0,rfl,zn _ _ _⟩
 | i+1=>simp [zBR] at hv
theorem Ownv.lit1 (w:World) (B:Nat) (e:TypeId) (u:Value) (hb:B≤w.heap.size):Ownv (w.alloc (.cells #[u] e)) B e (.slice (some ⟨w.heap.size,0,none⟩) 1 1) [u]:=by
 have:=World.ownsRow_lit (e:=e) (size:=1) w #[u] 1 hb (by decide) (by simp)
 simpa [Ownv] using this
theorem zEQ (l:List Int):(PalE.Pal.diff l).length≤l.length:=PalE.Pal.diff_length l
theorem zIQ {l:List Int} (hl:l.length=64):(PalE.Pal.encB l).length≤200:=by
 unfold PalE.Pal.encB;rw [if_neg (by omega)]
 unfold PalE.Pal.packB;split
 · simp
 · split
   · simp
   · unfold PalE.Pal.packMain PalE.Pal.packs;have h:=zEQ l;have hw:PalE.Pal.width (PalE.Pal.diff l).length≤8:=by unfold PalE.Pal.width;repeat (split <;> try omega)
     have h2:l.length * PalE.Pal.width (PalE.Pal.diff l).length≤64 * 8:=by rw [hl];exact Nat.mul_le_mul_left _ hw
     simp only [List.length_cons,List.length_append,List.length_map,List.length_range];omega
theorem zMM {l:List Int} (hl:l.length=64) (hb:Byt l):Byt (PalE.Pal.encB l):=by
 unfold PalE.Pal.encB;rw [if_neg (by omega)]
 unfold PalE.Pal.packB;split
 · intro x hx;simp at hx
 · split
   · intro x hx;simp at hx;omega
   · rename_i hbad hne;have hd:=zEQ l;intro x hx;unfold PalE.Pal.packMain at hx;simp only [List.mem_cons,List.mem_append] at hx;rcases hx with rfl | rfl | hx | hx
     · omega
     · omega
     · exact hb x ((PalE.Pal.mem_diff l x).1 hx)
     · unfold PalE.Pal.packs at hx;obtain ⟨j,hj,rfl⟩:=List.mem_map.1 hx;have hj:=List.mem_range.1 hj;by_cases h1:1<(PalE.Pal.diff l).length
       · have hwd:=PalE.Pal.width_wd h1
         have hlt:=PalE.Pal.byt_lt _ (fun i=>(PalE.Pal.diff l).idxOf (l.getD i 0)) hwd l.length (fun i hi=>by
          have hm:l.getD i 0∈PalE.Pal.diff l:=(PalE.Pal.mem_diff l _).2 (by rw [List.getD_eq_getElem?_getD,List.getElem?_eq_getElem hi];exact List.getElem_mem hi)
          have:=List.idxOf_lt_length_of_mem hm;have:=PalE.Pal.width_fits (m:=(PalE.Pal.diff l).length) (by omega)
          omega) j
         omega
       · have:PalE.Pal.width (PalE.Pal.diff l).length=0:=by unfold PalE.Pal.width;rw [if_pos (by omega)]
         rw [this] at hj;omega
def zFA (kc:List Int):Tr→List Int
 | .uni c=>dig kc 1 [vi (2 * c.toNat)]
 | .brick l=>dig kc 2 [PalE.Pal.encB l]
 | .node d ch=>dig kc 3 (vi (2 * d)::List.ofFn fun i=>zFA kc (ch i))
theorem zEv (kc:List Int) (t:Tr):(zFA kc t).length=16:=by cases t <;> (unfold zFA;exact zEu _ _ _)
theorem zMN (kc:List Int) (t:Tr):Byt (zFA kc t):=by cases t <;> (unfold zFA;exact zOP _ _ _)
def zNo (kc:List Int) (ch:Fin 8→Tr):List (List Int):=List.ofFn fun i=>zFA kc (ch i)
def zv (kc:List Int) (d:Nat) (ch:Fin 8→Tr) (k:Nat):List (List Int):=vi (2 * d)::(zNo kc ch).take k
theorem zDe (kc:List Int) (ch:Fin 8→Tr):(zNo kc ch).length=8:=List.length_ofFn
theorem zGO (kc:List Int) (d:Nat) (ch:Fin 8→Tr) {k:Nat} (hk:k<8):zv kc d ch (k+1)=zv kc d ch k++[zFA kc (ch ⟨k,hk⟩)]:=by
 unfold zv;rw [List.take_succ_eq_append_getElem (by rw [zDe];exact hk),List.cons_append]
 congr 3
 unfold zNo;rw [List.getElem_ofFn]
theorem zCg (kc:List Int) (d:Nat) (ch:Fin 8→Tr) {k:Nat} (hk:k≤8):(zv kc d ch k).length=k+1:=by
 unfold zv;rw [List.length_cons,List.length_take,zDe];omega
theorem zH5 (kc:List Int) (d:Nat) (ch:Fin 8→Tr):dig kc 3 (zv kc d ch 8)=zFA kc (.node d ch):=by
 unfold zv;rw [List.take_of_length_le (by rw [zDe];exact Nat.le_refl _)]
 conv=>rhs;unfold zFA
 rfl
theorem zJY (kc:List Int) {d:Nat} (ch:Fin 8→Tr) (hd:d≤1000):Parts (zv kc d ch 8):=by
 refine ⟨fun q hq=>?_,fun q hq=>?_,by rw [zCg _ _ _ (Nat.le_refl _)];omega⟩
 all_goals
  unfold zv at hq;rcases List.mem_cons.1 hq with rfl | hq
 · exact zKZ _
 · obtain ⟨i,rfl⟩:=List.mem_ofFn.1 (List.mem_of_mem_take hq);exact zMN _ _
 · have:=zKt (2 * d) (by omega);omega
 · obtain ⟨i,rfl⟩:=List.mem_ofFn.1 (List.mem_of_mem_take hq);rw [zEv];omega
end Go.Proofs.YtfcbajmjaifjlaaGreatDoor
namespace Go.Proofs.YtfcbajmjaifjlaaGreatDoor.PalE
set_option maxRecDepth 100000
open Go.RowKit
theorem idx_lt {xs:List Int} {c:Int} (h:c∈xs):xs.idxOf c<xs.length:=List.idxOf_lt_length_of_mem h
theorem zLq {xs:List Int} {c:Int} {k:Nat} (hk:xs[k]? = some c) (h:c ∉ xs.take k):xs.idxOf c=k:=by
 obtain ⟨hl,rfl⟩:=List.getElem?_eq_some_iff.1 hk;have hs:xs=xs.take k++xs[k]::xs.drop (k+1):=by simp
 have hlen:(xs.take k).length=k:=by simp;omega
 generalize hc:xs[k]=c at *;rw [hs,List.idxOf_append,if_neg h];simp [hlen]
theorem zFY {xs:List Int} {c x:Int} {k:Nat} (hk:xs[k]? = some x) (h:c ∉ xs.take k) (hne : ¬x=c):c ∉ xs.take (k+1):=by
 rw [List.take_add_one,hk];simp [h];exact fun e=>hne e.symm
end Go.Proofs.YtfcbajmjaifjlaaGreatDoor.PalE
namespace Go.Proofs.YtfcbajmjaifjlaaGreatDoor.PalE
set_option maxRecDepth 100000
open Go.RowKit
theorem zMc (c:Int) (w:World):Calls Tryz.prog 159 #[c] w fun e w'=>e = .returned (.bool (!Pal.cell c))∧w=w':=by
 by_cases h1:0≤c <;> by_cases h2:c≤255
 all_goals
  have hr:Bx (Pal.cell c=(decide (0≤c) && decide (c≤255))):=⟨rfl⟩;go_enter Tryz.func159,Tryz.ntmps159;go_wp2;go_ret;exact ⟨zK (by rw [hr.out];simp [*]),rfl⟩
theorem zIw (m:Nat) (w:World) (hm:m≤64):Calls Tryz.prog 146 #[(m:Int)] w fun e w'=>e = .returned (.int .i64 (Pal.width m:Nat))∧Below w.heap.size w w':=by
 have hr:Bx (Pal.width m=if m≤1 then 0 else if m≤2 then 1 else if m≤4 then 2 else if m≤16 then 4 else 8):=⟨rfl⟩;have i0 : ∀ w,(Instr.index 190 (.agg #[(1:Int),(0:Int),(2:Int),(1:Int),(4:Int),(2:Int),(16:Int),(4:Int),(64:Int),(8:Int)]) (.int .i64 0)).run Tryz.prog w = .ok (.agg #[(1:Int),(0:Int)]) w:=fun _=>by kernel_rfl
 have i1 : ∀ w,(Instr.index 190 (.agg #[(1:Int),(0:Int),(2:Int),(1:Int),(4:Int),(2:Int),(16:Int),(4:Int),(64:Int),(8:Int)]) (.int .i64 1)).run Tryz.prog w = .ok (.agg #[(2:Int),(1:Int)]) w:=fun _=>by kernel_rfl
 have i2 : ∀ w,(Instr.index 190 (.agg #[(1:Int),(0:Int),(2:Int),(1:Int),(4:Int),(2:Int),(16:Int),(4:Int),(64:Int),(8:Int)]) (.int .i64 2)).run Tryz.prog w = .ok (.agg #[(4:Int),(2:Int)]) w:=fun _=>by kernel_rfl
 have i3 : ∀ w,(Instr.index 190 (.agg #[(1:Int),(0:Int),(2:Int),(1:Int),(4:Int),(2:Int),(16:Int),(4:Int),(64:Int),(8:Int)]) (.int .i64 3)).run Tryz.prog w = .ok (.agg #[(16:Int),(4:Int)]) w:=fun _=>by kernel_rfl
 have i4 : ∀ w,(Instr.index 190 (.agg #[(1:Int),(0:Int),(2:Int),(1:Int),(4:Int),(2:Int),(16:Int),(4:Int),(64:Int),(8:Int)]) (.int .i64 4)).run Tryz.prog w = .ok (.agg #[(64:Int),(8:Int)]) w:=fun _=>by kernel_rfl
 go_enter Tryz.func146,Tryz.ntmps146;go_wp2
 go_loopw [3,12] (fun v i wr=>((i = .int .i64 0)∨(i = .int .i64 1∧1<m)∨(i = .int .i64 2∧2<m)∨(i = .int .i64 3∧4<m)∨(i = .int .i64 4∧16<m))∧Below w.heap.size w wr) (fun _ i _=>5 - (intOf i).toNat)
 case atStart=>exact ⟨.inl rfl,Below.refl _ _⟩
 case round =>
  obtain ⟨hrel,hbel⟩:=hrel;have hs:=hbel.size;rcases hrel with rfl | ⟨rfl,hm1⟩ | ⟨rfl,hm1⟩ | ⟨rfl,hm1⟩ | ⟨rfl,hm1⟩
  · by_cases hle:m≤1
    · go_wp2;go_ret;exact ⟨zY (by rw [hr.out];split <;> (try split) <;> (try split) <;> (try split) <;> omega),hbel.alloc hs _⟩
    · go_wp2
      go_roundw
      case rel=>exact ⟨by simp;omega,hbel.alloc hs _⟩
      case measure=>simp [intOf]
  · by_cases hle:m≤2
    · go_wp2;go_ret;exact ⟨zY (by rw [hr.out];split <;> (try split) <;> (try split) <;> (try split) <;> omega),hbel.alloc hs _⟩
    · go_wp2
      go_roundw
      case rel=>exact ⟨by simp;omega,hbel.alloc hs _⟩
      case measure=>simp [intOf]
  · by_cases hle:m≤4
    · go_wp2;go_ret;exact ⟨zY (by rw [hr.out];split <;> (try split) <;> (try split) <;> (try split) <;> omega),hbel.alloc hs _⟩
    · go_wp2
      go_roundw
      case rel=>exact ⟨by simp;omega,hbel.alloc hs _⟩
      case measure=>simp [intOf]
  · by_cases hle:m≤16
    · go_wp2;go_ret;exact ⟨zY (by rw [hr.out];split <;> (try split) <;> (try split) <;> (try split) <;> omega),hbel.alloc hs _⟩
    · go_wp2
      go_roundw
      case rel=>exact ⟨by simp;omega,hbel.alloc hs _⟩
      case measure=>simp [intOf]
  · by_cases hle:m≤64
    · go_wp2;go_ret;exact ⟨zY (by rw [hr.out];split <;> (try split) <;> (try split) <;> (try split) <;> omega),hbel.alloc hs _⟩
    · omega
end Go.Proofs.YtfcbajmjaifjlaaGreatDoor.PalE
namespace Go.Proofs.YtfcbajmjaifjlaaGreatDoor.PalE
set_option maxRecDepth 100000
open Go.RowKit
theorem zCS {xs:List Int} {k:Nat} {x:Int} {f:Int→Bool} (hx:xs[k]? = some x) (h:(xs.take k).all f=true) (hf:f x=true):(xs.take (k+1)).all f=true:=by
 rw [List.take_add_one,hx];simp [h,hf]
theorem zCR {xs:List Int} {k:Nat} {x:Int} {f:Int→Bool} (hx:xs[k]? = some x) (hf:f x=false):xs.all f=false:=by
 obtain ⟨hl,rfl⟩:=List.getElem?_eq_some_iff.1 hx;rw [List.all_eq_false];exact ⟨_,List.getElem_mem hl,by simp [hf]⟩
theorem zE5 {xs:List Int} {n:Nat} {f:Int→Bool} (hn:Bx (xs.length=n)) (h:(xs.take n).all f=true):xs.all f=true:=by
 rw [←hn.out,List.take_length] at h;exact h
theorem zIH (a:Option Addr) (cap:Nat) (xs:List Int) (w:World) (hl:xs.length≤1000000000) (h:Sl w .i64 a xs) :
 Calls Tryz.prog 124 #[.slice a xs.length cap,.func (.func 159) #[] #[]] w fun e w'=>(∃ r:Int,e = .returned (.int .i64 r)∧(decide (0≤r) = !xs.all Pal.cell))∧w=w':=by
 generalize hn:xs.length=n at hl;have Hn:=Bx.mk hn;clear hn;go_enter Tryz.func124,Tryz.ntmps124;go_wp2
 go_loop [8] (fun i => ∃ k:Nat,k≤n∧i = .int .i64 k∧(xs.take k).all Pal.cell=true) (fun i=>n - (intOf i).toNat)
 case atStart=>exact ⟨0,Nat.zero_le _,rfl,by simp⟩
 case round =>
  obtain ⟨k,hk,rfl,hall⟩:=hrel;have Hall:=Bx.mk hall;clear hall;by_cases hlt:k<n
  · obtain ⟨x,hx⟩:=zA6 Hn hlt;obtain ⟨b,off,rfl,hc⟩:=h k x hx;have Hx:=Bx.mk hx;clear h hx;cases hcx:Pal.cell x with
    | false =>
      have hf:=Bx.mk (zCR Hx.out hcx);go_wp2_with (go_at_call 159;refine (zMc x _).mono ?_;rintro e w' ⟨rfl,rfl⟩);go_ret;exact ⟨⟨_,rfl,by rw [hf.out];simp⟩,rfl⟩
    | true =>
      have hf:=Bx.mk (zCS Hx.out Hall.out hcx);go_wp2_with (go_at_call 159;refine (zMc x _).mono ?_;rintro e w' ⟨rfl,rfl⟩);go_round
      case rel=>exact ⟨k+1,by omega,by go_num,hf.out⟩
      case measure=>simp [intOf];omega
  · have hkn:k=n:=by omega
    have hf:=Bx.mk (zE5 Hn (hkn ▸ Hall.out));clear hkn;go_wp2;go_ret;exact ⟨⟨_,rfl,by rw [hf.out];simp⟩,rfl⟩
theorem zEy (a:Option Addr) (cap:Nat) (xs:List Int) (w:World) (hl:xs.length≤1000000000) (h:Sl w .i64 a xs) :
 Calls Tryz.prog 79 #[.slice a xs.length cap,.func (.func 159) #[] #[]] w fun e w'=>e = .returned (.bool (!xs.all Pal.cell))∧w=w':=by
 go_enter Tryz.func79,Tryz.ntmps79;go_wp2_with (go_at_call 124;refine (zIH a cap xs _ hl h).mono ?_;rintro e w' ⟨⟨r,rfl,hr⟩,rfl⟩;have Hr:=Bx.mk hr;clear hr);go_ret;exact ⟨zK Hr.out,rfl⟩
theorem zFB (a:Option Addr) (cap:Nat) (xs:List Int) (w:World) (hl:xs.length≤1000000000) (h:Sl w .i64 a xs) :
 Calls Tryz.prog 143 #[.slice a xs.length cap] w fun e w'=>e = .returned (.bool (xs.all Pal.cell))∧w=w':=by
 go_enter Tryz.func143,Tryz.ntmps143;go_wp2_with (go_at_call 79;refine (zEy a cap xs _ hl h).mono ?_;rintro e w' ⟨rfl,rfl⟩);go_ret;exact ⟨zK (by simp),rfl⟩
theorem zCt (a:Option Addr) (cap:Nat) (xs:List Int) (c:Int) (w:World) (hl:xs.length≤1000000000) (h:Sl w .i64 a xs) :
 Calls Tryz.prog 125 #[.slice a xs.length cap,c] w fun e w'=>e = .returned (.int .i64 (Pal.find xs c))∧w=w':=by
 generalize hn:xs.length=n at hl;have Hn:=Bx.mk hn;clear hn;go_enter Tryz.func125,Tryz.ntmps125;go_wp2
 go_loop [8] (fun i => ∃ k:Nat,k≤n∧i = .int .i64 k∧c ∉ xs.take k) (fun i=>n - (intOf i).toNat)
 case atStart=>exact ⟨0,Nat.zero_le _,rfl,by simp⟩
 case round =>
  obtain ⟨k,hk,rfl,hno⟩:=hrel;have Hno:=Bx.mk hno;clear hno;by_cases hlt:k<n
  · obtain ⟨x,hx⟩:=zA6 Hn hlt;obtain ⟨b,off,rfl,hc⟩:=h k x hx;have Hx:=Bx.mk hx;clear h hx;by_cases hec:x=c
    · have hb:(x == c)=true:=by simp [hec]
      have hb':(c == x)=true:=by simp [hec]
      have hf:=Bx.mk (zLq (hec ▸ Hx.out) Hno.out);have hm:Bx (c∈xs):=⟨by have:=Hx.out;rw [hec] at this;exact List.mem_of_getElem? this⟩
      clear hec;go_wp2;go_ret;exact ⟨zY (by rw [Pal.find_pos hm.out,hf.out]),rfl⟩
    · have hb:(x == c)=false:=by simp [hec]
      have hb':(c == x)=false:=by simp;exact fun e=>hec e.symm
      have hno':=Bx.mk (zFY Hx.out Hno.out hec);clear hec;go_wp2;go_round
      case rel=>exact ⟨k+1,by omega,by go_num,hno'.out⟩
      case measure=>simp [intOf];omega
  · have hkn:k=n:=by omega
    have hf:Bx (c ∉ xs):=Bx.mk (by have:=Hno.out;rw [hkn,←Hn.out] at this;simpa using this)
    clear hkn;go_wp2;go_ret;exact ⟨zY (by rw [Pal.find_neg hf.out]),rfl⟩
theorem zBS (a:Option Addr) (cap:Nat) (xs:List Int) (c:Int) (w:World) (hl:xs.length≤1000000000) (h:Sl w .i64 a xs) :
 Calls Tryz.prog 81 #[.slice a xs.length cap,c] w fun e w'=>e = .returned (.bool (decide (c∈xs)))∧w=w':=by
 by_cases hm:c∈xs
 all_goals
  have Hm:=Bx.mk hm;clear hm;go_enter Tryz.func81,Tryz.ntmps81;go_wp2_with (go_at_call 125;refine (zCt a cap xs c _ hl h).mono ?_;rintro e w' ⟨rfl,rfl⟩;first | rw [Pal.find_pos Hm.out] | rw [Pal.find_neg Hm.out]);go_ret;exact ⟨zK (by have:=Hm.out;simp [this]),rfl⟩
end Go.Proofs.YtfcbajmjaifjlaaGreatDoor.PalE
namespace Go.Proofs.YtfcbajmjaifjlaaGreatDoor.PalE
set_option maxRecDepth 100000
open Go.RowKit
theorem zEw (a:Option Addr) (cap:Nat) (xs:List Int) (w:World) (hl:xs.length≤1000000) (h:Sl w .i64 a xs) :
 Calls Tryz.prog 144 #[.slice a xs.length cap] w fun e w' =>
  ∃ v,e = .returned v∧Own w' w.heap.size 3 .i64 v (Pal.diff xs)∧Below w.heap.size w w':=by
 generalize hn:xs.length=n at hl;have Hn:=Bx.mk hn;clear hn;go_enter Tryz.func144,Tryz.ntmps144;go_wp2
 go_loopw [2,7] (fun v i wr => ∃ k:Nat,k≤n∧i = .int .i64 k∧Own wr w.heap.size 3 .i64 v (Pal.diff (xs.take k))∧Below w.heap.size w wr) (fun _ i _=>n - (intOf i).toNat)
 case atStart=>exact ⟨0,Nat.zero_le _,rfl,Own.nil _ _ _ _,Below.refl _ _⟩
 case round =>
  obtain ⟨k,hk,rfl,hown,hbel⟩:=hrel;by_cases hlt:k<n
  · obtain ⟨x,hx⟩:=zA6 Hn hlt;have hrec:=Bx.mk (Pal.diff_take xs k x hx);have hpl:=Pal.diff_length_take xs k;obtain ⟨b,off,rfl,hc⟩:=h.below hbel k x hx;clear h hx;generalize Pal.diff (xs.take k)=p at *;obtain ⟨pa,pc,rfl,hsl⟩:=hown.form;by_cases hmem:x∈p
    · have hadd:=Bx.mk (show Pal.add p x=p by simp [Pal.add,hmem])
      have hd:=Bx.mk (show decide (x∈p)=true by simp [hmem])
      clear hmem;go_wp2_with (go_at_call 81;refine (zBS pa pc p x _ (by omega) hsl).mono ?_;rintro e w' ⟨rfl,rfl⟩;rw [hd.out])
      go_roundw
      case rel=>exact ⟨k+1,by omega,by go_num,by rw [hrec.out,hadd.out];exact hown,hbel⟩
      case measure=>simp [intOf];omega
    · have hadd:=Bx.mk (show Pal.add p x=p++[x] by simp [Pal.add,hmem])
      have hd:=Bx.mk (show decide (x∈p)=false by simp [hmem])
      clear hmem
      go_wp2_with (first
       | (go_at_call 81;refine (zBS pa pc p x _ (by omega) hsl).mono ?_;rintro e w' ⟨rfl,rfl⟩;rw [hd.out])
       | (at_builtin
          refine zO rfl _ _ 26 rfl 3 .i64 (.int .i64 0) 8 (by omega) Tryz.underlying26 (by kernel_rfl) rfl w.heap.size _ p rfl (hown.alloc _) x ⟨wr.heap.size,0,none⟩ 1 rfl (zn _ _ _) (by omega) (zb hbel.size _) ?_
          intro v1 w1 hown1 hg1 _))
      go_roundw
      case rel=>exact ⟨k+1,by omega,by go_num,by rw [hrec.out,hadd.out];exact hown1,(hbel.alloc hbel.size _).grown hg1 (zb hbel.size _) (fun g hg=>(hown.lt g hg).1)⟩
      case measure=>simp [intOf];omega
  · have hkn:k=n:=by omega
    rw [hkn,←Hn.out,List.take_length] at hown;clear hkn;go_wp2;go_ret;exact ⟨_,rfl,hown,hbel⟩
end Go.Proofs.YtfcbajmjaifjlaaGreatDoor.PalE
end
