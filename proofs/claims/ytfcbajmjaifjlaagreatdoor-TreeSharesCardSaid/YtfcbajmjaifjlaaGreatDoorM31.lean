/- Shp, Stm, Sum, Rpd, Wir: joined by program, for one claim. -/
import Derived.Test.YtfcbajmjaifjlaaGreatDoorM30
import Derived.Laws.CopyRow
import Derived.Lib.AppendStr
set_option maxHeartbeats 1000000
set_option maxRecDepth 100000
set_option linter.unusedVariables false
set_option linter.unusedSimpArgs false
namespace Go.Proofs.YtfcbajmjaifjlaaGreatDoor
section
open Go.RowKit
def iv:W8:=⟨1779033703,3144134277,1013904242,2773480762,1359893119,2600822924,528734635,1541459225⟩
def blk (m:List Int) (q:Nat):List Int:=(m.drop (64 * q)).take 64
def zGm (kc m:List Int):Nat→W8
 | 0=>iv
 | q+1=>zOB kc (blk m q) (zGm kc m q)
theorem zOQ {m:List Int} {q:Nat} (h:64 * (q+1)≤m.length) (x:List Int):blk (m++x) q=blk m q:=by
 unfold blk;rw [List.drop_append_of_le_length (by omega),List.take_append_of_le_length (by rw [List.length_drop];omega)]
theorem zDn (kc m x:List Int) : ∀ q,64 * q≤m.length→zGm kc (m++x) q=zGm kc m q
 | 0,_=>rfl
 | q + 1, h => by
   unfold zGm;rw [zOQ h,zDn kc m x q (by omega)]
def zEe (n:Nat):Nat:=(119 - n % 64) % 64
def be8 (n i:Nat):Int:=((8 * n:Nat):Int) / 2 ^ (56 - 8 * i) % 256
def pad (n:Nat):List Int:=128::List.replicate (zEe n) 0++(List.range 8).map (be8 n)
theorem zNP (n:Nat):(pad n).length=9+zEe n:=by unfold pad;simp;omega
theorem zJa (n j:Nat) (hj:j≤zEe n):(n+1+j) % 64=56 ↔ j=zEe n:=by unfold zEe at *; omega
theorem be8_bd (n i:Nat):0≤be8 n i∧be8 n i≤255:=by unfold be8;omega
theorem zON (n:Nat):Byt (pad n):=by
 intro x hx;unfold pad at hx;rw [List.cons_append,List.mem_cons,List.mem_append,List.mem_replicate,List.mem_map] at hx;rcases hx with rfl | ⟨-,rfl⟩ | ⟨i,-,rfl⟩
 · omega
 · omega
 · exact be8_bd n i
def zKj (s:W8) (i:Nat):Int:=s.list.getD (i / 4) 0 / 2 ^ (24 - 8 * (i % 4)) % 256
def out (s:W8):List Int:=(List.range 32).map (zKj s)
theorem zGQ (s:W8):(out s).length=32:=by unfold out;rw [List.length_map,List.length_range]
theorem zOO (s:W8):Byt (out s):=by
 intro x hx;unfold out at hx;obtain ⟨i,-,rfl⟩:=List.mem_map.1 hx;unfold zKj;omega
def sha (kc m:List Int):List Int:=out (zGm kc (m++pad m.length) ((m++pad m.length).length / 64))
structure StreamOf (kc m:List Int) (st:W8) (bl:List Int):Prop where
 st_:st=zGm kc m (m.length / 64)
 len:bl.length=64
 tail:bl.take (m.length % 64)=m.drop (64 * (m.length / 64))
 byt:Byt bl
theorem zHm (kc:List Int):StreamOf kc [] iv (List.replicate 64 0):=⟨rfl,by rw [List.length_replicate],rfl,fun x hx=>by rw [List.mem_replicate] at hx;omega⟩
def zAM (bl t:List Int) (n k:Nat):List Int:=bl.take n++t.take k++bl.drop (n+k)
theorem zCl {bl t:List Int} {n k:Nat} (hl:bl.length=64) (hk:k≤t.length) (hn:n+k≤64):(zAM bl t n k).length=64:=by
 unfold zAM;rw [List.length_append,List.length_append,List.length_take,List.length_take,List.length_drop];omega
theorem zGF {kc m:List Int} {st:W8} {bl t:List Int} (h:StreamOf kc m st bl) {k:Nat} (hk:k≤t.length) (ht:Byt t) (he:m.length % 64+k=64) :
 StreamOf kc (m++t.take k) (zOB kc (zAM bl t (m.length % 64) k) st) (zAM bl t (m.length % 64) k):=by
 have hf:=zCl (n:=m.length % 64) h.len hk (by omega)
 have hl:(m++t.take k).length=64 * (m.length / 64+1):=by rw [List.length_append,List.length_take];omega
 have hq:(m++t.take k).length / 64=m.length / 64+1:=by omega
 have hb:blk (m++t.take k) (m.length / 64)=zAM bl t (m.length % 64) k:=by
  unfold blk zAM;rw [List.drop_append_of_le_length (by omega),←h.tail,List.drop_of_length_le (by rw [h.len];omega),List.append_nil,List.take_of_length_le (by rw [List.length_append,List.length_take,List.length_take,h.len];omega)]
 refine ⟨?_,hf,?_,?_⟩
 · rw [hq,zGm,hb,zDn _ _ _ _ (by omega),←h.st_]
 · rw [hl,Nat.mul_mod_right,List.take_zero,Nat.mul_div_cancel_left _ (by omega),List.drop_of_length_le (by omega)]
 · unfold zAM;exact ((h.byt.take _).append (ht.take _)).append (h.byt.drop _)
theorem zGE {kc m:List Int} {st:W8} {bl t:List Int} (h:StreamOf kc m st bl) (ht:Byt t) (he:m.length % 64+t.length<64) :
 StreamOf kc (m++t) st (zAM bl t (m.length % 64) t.length):=by
 have hf:=zCl (n:=m.length % 64) (k:=t.length) h.len (Nat.le_refl _) (by omega)
 have hl:(m++t).length=m.length+t.length:=List.length_append;have hq:(m++t).length / 64=m.length / 64:=by omega
 have hm:(m++t).length % 64=m.length % 64+t.length:=by omega
 refine ⟨?_,hf,?_,?_⟩
 · rw [hq,zDn _ _ _ _ (by omega),←h.st_]
 · rw [hq,hm,List.drop_append_of_le_length (by omega),←h.tail]
   unfold zAM;rw [List.take_of_length_le (l:=t) (Nat.le_refl _),List.take_append_of_le_length (by rw [List.length_append,List.length_take,h.len];omega),List.take_of_length_le]
   rw [List.length_append,List.length_take,h.len];omega
 · unfold zAM;exact ((h.byt.take _).append (ht.take _)).append (h.byt.drop _)
def zAb (st:W8) (bl:List Int) (n:Nat):List Value:=st.list.map (Value.int .u32)++bl.map (Value.int .u8)++[.int .u64 (n:Int)]
def zDw (st:W8) (bl:List Int) (n:Nat):Value:=.agg (zAb st bl n).toArray
end
section
open Go.RowKit Go.Sort
theorem zBr (b:Nat) : ∀ (vs:List Value) (o:Nat) (w:World) (k:Nat),k ≠ b→(w.setCells b o vs).heap[k]? = w.heap[k]?
 | [],_,_,_,_=>rfl
 | v :: vs, o, w, k, hk => by
   unfold World.setCells;rw [zBr b vs _ _ k hk,heap_setCell_other w ⟨b,o,none⟩ k v hk]
theorem zBw (B b:Nat) : ∀ (vs:List Value) (o:Nat) (w:World),B≤b→Below B w (w.setCells b o vs)
 | [],_,_,_=>Below.refl _ _
 | v :: vs, o, w, h => by
   unfold World.setCells;exact ((Below.refl B w).setCell (p:=⟨b,o,none⟩) h v).trans (zBw B b vs (o+1) _ h)
theorem str_ne {t:List Int} (h:t.length ≠ 0):(strOfNums t).toList.isEmpty=false:=by
 rw [ByteArray.toList_eq,strOfNums_data];cases t <;> simp_all
theorem zMe (st:W8) {bl:List Int} (h:bl.length=64) (n n':Nat):(zAb st bl n).set 72 (.int .u64 (n':Int))=zAb st bl n':=by
 unfold zAb;rw [List.set_append_right _ _ (by rw [List.length_append,List.length_map,List.length_map,h];show 8+64≤72;omega),List.length_append,List.length_map,List.length_map,h]
 rfl
theorem Bk.cells {b:Nat} {t:TypeId} : ∀ (vs:List Value) (o:Nat) (L:List Value) (w:World),Bk w b L.toArray t→o+vs.length≤L.length→Bk (w.setCells b o vs) b (L.take o++vs++L.drop (o+vs.length)).toArray t
 | [], o, L, w, h, _ => by
   rw [List.append_nil,List.length_nil,Nat.add_zero,List.take_append_drop];exact h
 | v :: vs, o, L, w, h, hl => by
   rw [List.length_cons] at hl;have h1:=h.set o v;rw [List.setIfInBounds_toArray] at h1;have h2:=Bk.cells vs (o+1) _ _ h1 (by rw [List.length_set];omega)
   unfold World.setCells
   have e:(L.set o v).take (o+1)++vs++(L.set o v).drop (o+1+vs.length)=L.take o++v::vs++L.drop (o+(v::vs).length):=by
    rw [List.take_set,List.drop_set_of_lt (by omega),List.length_cons,show o+(vs.length+1)=o+1+vs.length by omega]
    rw [List.take_succ_eq_append_getElem (by omega),List.set_append_right _ _ (by rw [List.length_take];omega),List.length_take,Nat.min_eq_left (by omega),Nat.sub_self,List.set_cons_zero]
    simp
   rw [e] at h2;exact h2
theorem zIL {P:Program} (w:World) (s:List Int) (hs:Byt s) (k:Nat):(Builtin.firstCells 1 k (.string (strOfNums s))).run P w = .ok ((s.take k).map (Value.int .u8)).toArray w:=by
 have h1:(strOfNums s).extract 0 k=strOfNums (s.take k):=by
  rw [zDP,List.drop_zero,Nat.sub_zero]
 show (pure (((strOfNums s).extract 0 k).data.map fun b=>Value.int .u8 (b.toNat:Int)):Sem (Array Value)).run P w=_
 rw [h1]
 have h2:((strOfNums (s.take k)).data.map fun b=>Value.int .u8 (b.toNat:Int))=((s.take k).map (Value.int .u8)).toArray:=by
  have h3:=zMq (hs.take k);apply Array.ext';rw [Array.toList_map]
  conv=>rhs;rw [←h3]
  unfold bs;rw [List.map_map];rfl
 rw [h2];rfl
theorem zEa {P:Program} (w:World) (dT sT ty elem:TypeId) (g o dLen dCap:Nat) (t:TypeId) (cs:List Value) (s:List Int) (hs:Byt s) (k:Nat) (hk:k=min s.length dLen)
 (hu:P.underlying dT=some (.slice elem)) (hsz:(P.info? elem).map (·.size)=some 1) (hg:w.heap[g]? = some (.cells cs.toArray t (0,0))) (hfit:o+k≤cs.length) :
 (Builtin.copy_ #[dT,sT] ty #[.slice (some ⟨g,o,none⟩) dLen dCap,.string (strOfNums s)]).run P w = .ok (goInt k) (w.setRow g (cs.take o++(s.take k).map (Value.int .u8)++cs.drop (o+k)).toArray):=by
 have hl:((s.take k).map (Value.int .u8)).length=k:=by rw [List.length_map,List.length_take];omega
 have hst:=run_storeCells_at P g o t ((s.take k).map (Value.int .u8)) 0 _ w hg (by rw [hl,List.size_toArray];omega) (fun v hv=>by
  obtain ⟨x,_,rfl⟩:=List.mem_map.1 hv;rfl)
 have hf:=zIL (P:=P) w s hs k;have hm:Nat.min (strOfNums s).size dLen=k:=by rw [strOfNums_size];exact hk.symm
 rw [Nat.add_zero,hl] at hst;clear hl;generalize (s.take k).map (Value.int .u8)=vs at *;cases hq:P.info? elem with
 | none=>simp [hq] at hsz
 | some i =>
   have hi:i.size=1:=by simpa [hq] using hsz
   simp [Builtin.copy_,run_underlying hu,Builtin.lenOf,sizeOf,typeInfo,hq,hi,hm,hf,hst]
theorem zC2 {P:Program} {w:World} {ops:Array Oper} {rest:List Oper} {o:Oper} {a:Act} {Q:Exit→Act→World→Prop} (hgd:o.guard=none) (d s:Operand) (dT sT:TypeId)
 (ho:o.op = .call { callee:=.builtin .copy,args:=#[d,s],argTypes:=#[dT,sT] }) (elem:TypeId) (hu:P.underlying dT=some (.slice elem)) (hsz:(P.info? elem).map (·.size)=some 1)
 (g off dLen dCap:Nat) (hd:a.eval d = .slice (some ⟨g,off,none⟩) dLen dCap) (cs:List Value) (xs:List Int) (hx:Byt xs) (hs:a.eval s = .string (strOfNums xs)) (t:TypeId)
 (hg:w.heap[g]? = some (.cells cs.toArray t (0,0))) (k:Nat) (hk:k=min xs.length dLen) (hfit:off+k≤cs.length)
 (h:wpList P ops Q rest (a.put o.dst (goInt k)) (w.setRow g (cs.take off++(xs.take k).map (Value.int .u8)++cs.drop (off+k)).toArray)):wpList P ops Q (o::rest) a w:=by
 refine wpList_plain hgd fun K hK=>?_;have hr:=zEa (P:=P) w dT sT o.type elem g off dLen dCap t cs xs hx k hk hu hsz hg hfit;unfold Oper.wp execOp;simp only [ho,resolve,invoke,builtin,Sem.run_bind,Sem.run_pure,Result.andThen_ok,List.map_toArray,List.map_cons,List.map_nil,hd,hs,hr];exact hK _ _ h
theorem zAZ (st:W8) {bl:List Int} (h:bl.length=64) (n:Nat):(zAb st bl n).length=73:=by
 unfold zAb;rw [List.length_append,List.length_append,List.length_map,List.length_map,h];rfl
theorem zJB (st:W8) {bl t:List Int} (h:bl.length=64) (n at_ k:Nat) (hk:k≤t.length) (ha:at_+k≤64) :
 (zAb st bl n).take (8+at_)++(t.take k).map (Value.int .u8)++(zAb st bl n).drop (8+at_+k)=zAb st (zAM bl t at_ k) n:=by
 have h8:(st.list.map (Value.int .u32)).length=8:=rfl;have e : ∀ b:List Int,zAb st b n=st.list.map (Value.int .u32)++(b.map (Value.int .u8)++[.int .u64 (n:Int)]):=fun b=>List.append_assoc _ _ _;rw [e,e];unfold zAM;rw [List.take_append,List.drop_append,h8,List.take_of_length_le (by omega),List.drop_of_length_le (by omega),List.nil_append,show 8+at_ - 8=at_ by omega,show 8+at_+k - 8=at_+k by omega]
 rw [List.take_append_of_le_length (by rw [List.length_map];omega),List.drop_append_of_le_length (by rw [List.length_map];omega)]
 simp only [List.map_append,List.map_take,List.map_drop,List.append_assoc]
structure StmI (w:World) (kc m t:List Int) (j:Nat) (st:W8) (bl:List Int) (wr:World):Prop where
 bel:Below w.heap.size w wr
 so:StreamOf kc (m++t.take j) st bl
 kb:Bk wr w.heap.size (zAb st bl (m.length+j)).toArray 150
 kr:Bk wr (w.heap.size+1) Tryz.zeroCells150 150
def zOV (w:World) (kc m:List Int) (e:Ending) (w':World):Prop := ∃ st bl,e = .returned (zDw st bl m.length)∧StreamOf kc m st bl∧Below w.heap.size w w'
theorem zGH (kc m t:List Int) (hk:kc.length=64) (hm:m.length+t.length≤1000000000) (ht:Byt t) (st:W8) (bl:List Int) (h:StreamOf kc m st bl) (w:World) (hK:Krow w 0 kc) :
 Calls Tryz.prog 105 #[zDw st bl m.length,.string (strOfNums t)] w (zOV w kc (m++t)):=by
 have hK:=Bx.mk hK;have hbt:=Bx.mk ht;have hso:=Bx.mk h;unfold zDw;clear h ht;go_enter Tryz.func105,Tryz.ntmps105;go_wp2_with fail;generalize hW:World.alloc (World.alloc w _) _=W
 have HI:Bx (StmI w kc m t 0 st bl W):=by
  rw [←hW];exact ⟨⟨((Below.refl _ _).alloc (Nat.le_refl _) _).alloc (by simp) _,by rw [List.take_zero,List.append_nil];exact hso.out,zB (zI _ _ _ (by simp)),zI _ _ _ (by simp)⟩⟩
 clear hW hso
 go_loopw [1] (fun v1 wr => ∃ j:Nat,j≤t.length∧v1 = .string (strOfNums (t.drop j))∧Bx (∃ st bl,StmI w kc m t j st bl wr)) (fun v1 _=>match v1 with | .string s=>s.size | _=>0)
 case atStart=>exact ⟨0,Nat.zero_le _,by rw [List.drop_zero],⟨_,_,HI.out⟩⟩
 case round =>
  clear HI;obtain ⟨j,hj,rfl,HI⟩:=hrel;obtain ⟨s1,b1,HI⟩:=HI.out;replace HI:=Bx.mk HI;have hn:(strOfNums (t.drop j)).size=t.length - j:=by rw [strOfNums_size,List.length_drop]
  by_cases hlt:j<t.length
  · have t0:(!(strOfNums (t.drop j)).toList.isEmpty)=true:=by rw [str_ne (by rw [List.length_drop];omega)];rfl
    obtain ⟨at_,hat⟩ : ∃ a,a=(m.length+j) % 64:=⟨_,rfl⟩;obtain ⟨k,hk2⟩ : ∃ k,k=min (t.length - j) (64 - at_):=⟨_,rfl⟩;have hat8:at_<64:=by omega
    have hk8:0<k∧at_+k≤64∧j+k≤t.length:=by omega
    have hl1:=HI.out.so.len
    have c72:wr.cell? ⟨w.heap.size,72,none⟩=some (.int .u64 ((m.length+j:Nat):Int)):=HI.out.kb.cell 72 (by
     rw [List.getElem?_toArray];unfold zAb;rw [List.getElem?_append_right (by rw [List.length_append,List.length_map,List.length_map,hl1];show 8+64≤72;omega),List.length_append,List.length_map,List.length_map,hl1];rfl)
    have e1:((m.length+j:Nat):Int) % 64=(at_:Int):=by omega
    have hkb:=Bx.mk HI.out.kb;have hbd:=Bx.mk (hbt.out.drop j);generalize hn0:m.length+j=n0 at *;replace hn0:=Bx.mk hn0;replace hat:=Bx.mk hat
    replace hk2:=Bx.mk hk2;replace hl1:=Bx.mk hl1;have q0:(0:Int)≤(at_:Int):=by omega
    have q1:(at_:Int)≤64:=by omega
    go_upto_region 3 with fail;clear c72 e1;have hkk:k=min (t.drop j).length (64 - at_):=by rw [List.length_drop];exact hk2.out
    have z2:(strOfNums (t.drop j)).extract k (t.length - j)=strOfNums (t.drop (j+k)):=by
     rw [zDP,List.drop_drop,List.take_of_length_le (by rw [List.length_drop];omega)]
    have hfit:8+at_+k≤(zAb s1 b1 n0).length:=by rw [zAZ _ hl1.out];omega
    have hu8:(Tryz.prog.info? 5).map (·.size)=some 1:=by kernel_rfl
    have q2:(0:Int)≤(k:Int):=by omega
    have q3:(k:Int)≤((t.length - j:Nat):Int):=by omega
    replace z2:=Bx.mk z2;replace hkk:=Bx.mk hkk;go_upto_region 4 with (refine zC2 rfl _ _ _ _ rfl 5 Tryz.underlying107 hu8 w.heap.size (8+at_) _ _ rfl (zAb s1 b1 n0) (t.drop j) hbd.out rfl _ hkb.out k hkk.out hfit ?_);generalize hW:World.setRow wr _ _=W1;have hfl:Bx ((zAM b1 (t.drop j) at_ k).length=64):=⟨zCl hl1.out (by rw [List.length_drop];omega) hk8.2.1⟩
    have HJ:Bx (Below w.heap.size w W1∧Bk W1 w.heap.size (zAb s1 (zAM b1 (t.drop j) at_ k) n0).toArray 150∧Bk W1 (w.heap.size+1) Tryz.zeroCells150 150):=by
     rw [←hW,←zJB s1 hl1.out n0 at_ k (by rw [List.length_drop];omega) hk8.2.1]
     simp only [List.map_take,List.map_drop,List.append_assoc];refine ⟨below_setRow HI.out.bel (Nat.le_refl _) _,setRow_heap _ _ _ _ _ (0,0) hkb.out,?_⟩;have hkr:=HI.out.kr;unfold Bk at *;rw [setRow_other _ _ _ _ (by omega)];exact hkr
    have hst:Bx ((at_+k=64→StreamOf kc (m++t.take (j+k)) (zOB kc (zAM b1 (t.drop j) at_ k) s1) (zAM b1 (t.drop j) at_ k))∧(at_+k ≠ 64→StreamOf kc (m++t.take (j+k)) s1 (zAM b1 (t.drop j) at_ k))):=by
     have e:m++t.take (j+k)=(m++t.take j)++(t.drop j).take k:=by rw [List.append_assoc,←List.take_add]
     have e2:(m++t.take j).length % 64=at_:=by rw [List.length_append,List.length_take,Nat.min_eq_left hj,hn0.out];exact hat.out.symm
     rw [e];refine ⟨⟨fun h=>?_,fun h=>?_⟩⟩
     · have:=zGF (t:=t.drop j) (k:=k) HI.out.so (by rw [List.length_drop];omega) hbd.out (by rw [e2];exact h)
       rwa [e2] at this
     · have hkl:k=(t.drop j).length:=by rw [List.length_drop];have:=hk2.out;omega
       have:=zGE (t:=t.drop j) HI.out.so hbd.out (by rw [e2,←hkl];omega)
       rw [e2,←hkl] at this;rw [List.take_of_length_le (l:=t.drop j) (i:=k) (by omega)]
       exact this
    have hbf:Bx (Byt (zAM b1 (t.drop j) at_ k)):=⟨by unfold zAM;exact ((HI.out.so.byt.take _).append (hbd.out.take _)).append (HI.out.so.byt.drop _)⟩
    clear hW HI hkb hkk hl1 hbd hfit;generalize zAM b1 (t.drop j) at_ k=b2 at *;have z2:=z2.out;go_upto_region 5 with fail;clear z2
    have c72:W1.cell? ⟨w.heap.size,72,none⟩=some (.int .u64 (n0:Int)):=HJ.out.2.1.cell 72 (by
     rw [List.getElem?_toArray];unfold zAb;rw [List.getElem?_append_right (by rw [List.length_append,List.length_map,List.length_map,hfl.out];show 8+64≤72;omega),List.length_append,List.length_map,List.length_map,hfl.out];rfl)
    have f72:=HJ.out.2.1.frozen 72;have q4:(n0:Int)+(k:Int)<18446744073709551616:=by have:=hn0.out;omega
    have q5:(0:Int)≤(n0:Int):=by omega
    by_cases hfull:at_+k=64
    · have t1:((at_:Int)+(k:Int) == 64)=true:=by simp;omega
      have hs1:=hst.out.1 hfull;go_upto_region 7 with fail;generalize hW:World.setCell W1 _ _=W2
      have HJ2:Bx (Below w.heap.size w W2∧Bk W2 w.heap.size (zAb s1 b2 (n0+k)).toArray 150∧Bk W2 (w.heap.size+1) Tryz.zeroCells150 150):=by
       rw [←hW,show (n0:Int)+(k:Int)=((n0+k:Nat):Int) by omega]
       refine ⟨⟨HJ.out.1.setCell (by show w.heap.size≤w.heap.size;omega) _,?_,HJ.out.2.2.other _ _ (by show w.heap.size+1 ≠ w.heap.size;omega)⟩⟩
       have:=HJ.out.2.1.set 72 (.int .u64 ((n0+k:Nat):Int));rwa [List.setIfInBounds_toArray,zMe s1 hfl.out] at this
      clear hW c72 f72 HJ hst;have hs1:=Bx.mk hs1
      have hsl:Bx (Sl W2 .u8 (some ⟨w.heap.size,8,none⟩) b2):=⟨fun i x hx=>⟨_,8,rfl,HJ2.out.2.1.cell (8+i) (by
       rw [List.getElem?_toArray];unfold zAb;rw [List.append_assoc,List.getElem?_append_right (by rw [List.length_map];show 8≤8+i;omega),List.length_map,show 8+i - s1.list.length=i from by show 8+i - 8=i;omega,List.getElem?_append_left (by rw [List.length_map];exact (List.getElem?_eq_some_iff.1 hx).1),List.getElem?_map,hx];rfl)⟩⟩
      have hK2:Bx (Krow W2 0 kc):=⟨fun i v hv=>cell_later HJ2.out.1 (hK.out i v hv)⟩;have hcm:=Bx.mk fun dk osk=>Calls.regrown_of (zFx s1 (some ⟨w.heap.size,8,none⟩) 64 b2 kc hk hfl.out (by omega) hbf.out (grow (redrawn W2 dk) osk) (hsl.out.below (below_regrown W2 dk osk)) (fun i v hv=>cell_later (below_regrown W2 dk osk) (hK2.out i v hv)))
      generalize zOB kc b2 s1=s2 at *;obtain ⟨sa,sb,sc,sd,se,sf,sg,sh⟩:=s1;dsimp only at hcm;obtain ⟨d0,d1,d2,d3,d4,d5,d6,d7⟩:=HJ2.out.2.1.r8;refine zA 6 (by kernel_rfl) (by kernel_rfl) ?_
      simp only [List.take_succ_cons,List.take_zero,List.drop_succ_cons,List.drop_zero]
      repeat (first | go_big_quiet_step (exact hcm.out _ _) | quiet_step (exact hcm.out _ _))
      refine wpQuiet_nil ?_;rintro _ ⟨⟨dq,osq⟩,rfl⟩
      have HJ3:Bx (Below w.heap.size w (grow (redrawn W2 dq) osq)∧Bk (grow (redrawn W2 dq) osq) w.heap.size (zAb ⟨sa,sb,sc,sd,se,sf,sg,sh⟩ b2 (n0+k)).toArray 150∧Bk (grow (redrawn W2 dq) osq) (w.heap.size+1) Tryz.zeroCells150 150) :=
       ⟨HJ2.out.1.trans ((below_regrown W2 dq osq).mono HJ2.out.1.size),HJ2.out.2.1.later (below_regrown W2 dq osq),HJ2.out.2.2.later (below_regrown W2 dq osq)⟩
      clear HJ2 hcm hsl hK2 d0 d1 d2 d3 d4 d5 d6 d7;generalize grow (redrawn W2 dq) osq=W3 at *
      have hth:Bx (W3.there w.heap.size 0 (s2.list.map (Value.int .u32)).toArray.size):=⟨fun i hi=>by
       have hi:i<8:=hi;rw [Nat.zero_add];refine ⟨?_,HJ3.out.2.1.frozen i⟩;rw [HJ3.out.2.1.cell i (v:=(zAb ⟨sa,sb,sc,sd,se,sf,sg,sh⟩ b2 (n0+k))[i]'(by rw [zAZ _ hfl.out];omega)) (by rw [List.getElem?_toArray,List.getElem?_eq_getElem])]
       rfl⟩
      have h8:(Tryz.prog.info? 146).map (·.size)=some (s2.list.map (Value.int .u32)).toArray.size:=by kernel_rfl
      have hone:=Bx.mk (zAR .u32 s2.list);replace h8:=Bx.mk h8;unfold zDr;refine wpList_store_mid rfl _ _ _ rfl w.heap.size 0 (s2.list.map (Value.int .u32)).toArray rfl rfl hth.out h8.out hone.out ?_;simp only [Act.put];generalize hW:World.setCells W3 _ _ _=W4;go_wp2_with fail
      have HI2:Bx (StmI w kc m t (j+k) s2 b2 W4):=by
       have hl:=HJ3.out.2.1.cells (s2.list.map (Value.int .u32)) 0 _ _ (by show 0+8≤_;rw [zAZ _ hfl.out];omega)
       rw [←hW];have hs:=zBr w.heap.size (s2.list.map (Value.int .u32)) 0 W3;refine ⟨⟨HJ3.out.1.trans ?_,hs1.out,?_,?_⟩⟩
       · exact zBw _ _ _ _ _ (Nat.le_refl _)
       · rw [←Nat.add_assoc,hn0.out];exact hl
       · have hkr:=HJ3.out.2.2;unfold Bk at *;rw [hs _ (by omega)];exact hkr
      refine ⟨⟨j+k,by omega,rfl,⟨_,_,HI2.out⟩⟩,?_⟩
      show (strOfNums (t.drop (j+k))).size<(strOfNums (t.drop j)).size
      rw [strOfNums_size,strOfNums_size,List.length_drop,List.length_drop];omega
    · have t1:((at_:Int)+(k:Int) == 64)=false:=by simp;omega
      have hs1:=Bx.mk (hst.out.2 hfull);go_wp2_with fail
      have HI2:Bx (StmI w kc m t (j+k) s1 b2 (W1.setCell ⟨w.heap.size,72,none⟩ (.int .u64 ((n0:Int)+(k:Int))))):=by
       rw [show (n0:Int)+(k:Int)=((n0+k:Nat):Int) by omega]
       refine ⟨⟨HJ.out.1.setCell (by show w.heap.size≤w.heap.size;omega) _,hs1.out,?_,HJ.out.2.2.other _ _ (by show w.heap.size+1 ≠ w.heap.size;omega)⟩⟩
       have:=HJ.out.2.1.set 72 (.int .u64 ((n0+k:Nat):Int));rw [List.setIfInBounds_toArray,zMe s1 hfl.out] at this;rw [←Nat.add_assoc,hn0.out];exact this
      refine ⟨⟨j+k,by omega,rfl,⟨_,_,HI2.out⟩⟩,?_⟩
      show (strOfNums (t.drop (j+k))).size<(strOfNums (t.drop j)).size
      rw [strOfNums_size,strOfNums_size,List.length_drop,List.length_drop];omega
  · have t0:(!(strOfNums ([]:List Int)).toList.isEmpty)=false:=by rw [ByteArray.toList_eq];rfl
    obtain rfl:j=t.length:=by omega
    rw [List.drop_length] at *;have hso:=HI.out.so;rw [List.take_length] at hso;have hl1:=hso.len;have hso:=Bx.mk hso;have hsz:(zAb s1 b1 (m.length+t.length)).toArray.size=73:=by rw [List.size_toArray,zAZ _ hl1]
    have hkb:=Bx.mk HI.out.kb;have hkr:=Bx.mk HI.out.kr;have H1:=Bx.mk (show ∀ cs:Array Value,cs.size=73→(Tryz.prog.info? 150).map (·.size)=some cs.size from fun cs h=>by rw [h];kernel_rfl)
    have hs2 : Tryz.zeroCells150.size=(zAb s1 b1 (m.length+t.length)).toArray.size:=by rw [hsz];kernel_rfl
    have hone:(zAb s1 b1 (m.length+t.length)).toArray.all (·.oneCell')=true:=by
     rw [Array.all_eq_true_iff_forall_mem];intro v hv;rw [List.mem_toArray] at hv;unfold zAb at hv;rw [List.mem_append,List.mem_append,List.mem_map,List.mem_map,List.mem_singleton] at hv;rcases hv with (⟨x,-,rfl⟩ | ⟨x,-,rfl⟩) | rfl <;> rfl
    have hsz:=Bx.mk hsz;have hs2:=Bx.mk hs2;have hone:=Bx.mk hone;have hll:Bx ((m++t).length=m.length+t.length):=⟨List.length_append⟩;go_upto_region 8 with fail
    go_wp2_with (first
     | refine zh rfl _ _ rfl w.heap.size rfl _ _ hkb.out _ Tryz.underlying150 rfl (H1.out _ hsz.out) ?_
     | refine zE rfl _ _ _ rfl (w.heap.size+1) rfl _ _ rfl _ hkr.out (H1.out _ hsz.out) hs2.out hone.out ?_)
    refine bodyPost_ret (v:=zDw s1 b1 (m.length+t.length)) (results_cell_row rfl _ _ (w.heap.size+1) 150 _ (0,0) _ rfl (setRow_heap _ _ _ _ _ (0,0) hkr.out) Tryz.underlying150 rfl (H1.out _ hsz.out)) rfl ⟨s1,b1,by rw [hll.out],hso.out,below_setRow HI.out.bel (by omega) _⟩
theorem zDC (st:W8) (bl:List Int) (n:Nat):(zAb st bl n).toArray.all (·.oneCell')=true:=by
 rw [Array.all_eq_true_iff_forall_mem];intro v hv;rw [List.mem_toArray] at hv;unfold zAb at hv;rw [List.mem_append,List.mem_append,List.mem_map,List.mem_map,List.mem_singleton] at hv;rcases hv with (⟨x,-,rfl⟩ | ⟨x,-,rfl⟩) | rfl <;> rfl
theorem zBZ (cs:Array Value) (h:cs.size=73):(Tryz.prog.info? 150).map (·.size)=some cs.size:=by rw [h];kernel_rfl
def z64:List Int:=List.replicate 64 0
def z32:List Int:=List.replicate 32 0
theorem zKc (w:World):Calls Tryz.prog 104 #[] w fun e w'=>e = .returned (zDw iv z64 0)∧Below w.heap.size w w':=by
 have hsz:Bx ((zAb iv z64 0).toArray.size=73):=⟨rfl⟩;have hone:=Bx.mk (zDC iv z64 0);have hs2:Bx (Tryz.zeroCells150.size=(zAb iv z64 0).toArray.size):=⟨by rw [hsz.out];kernel_rfl⟩
 have hu:=Tryz.underlying150;have hcs:zAb iv z64 0=(zAb iv z64 0):=rfl;go_enter Tryz.func104,Tryz.ntmps104;go_upto_region 1 with fail;go_wp2_with (refine zE rfl _ _ _ rfl w.heap.size rfl _ (zAb iv z64 0).toArray rfl _ (heap_alloc_new _ _) (zBZ _ hsz.out) hs2.out hone.out ?_);refine bodyPost_ret (v:=zDw iv z64 0) (results_cell_row rfl _ _ w.heap.size 150 _ (0,0) _ rfl (setRow_heap _ _ _ _ _ (0,0) (heap_alloc_new _ _)) hu rfl (zBZ _ hsz.out)) rfl ⟨rfl,below_setRow ((Below.refl _ _).alloc (Nat.le_refl _) _) (Nat.le_refl _) _⟩
theorem zFI (kc:List Int):StreamOf kc [] iv z64:=zHm kc
structure SumI (w:World) (st:W8) (bl:List Int) (n:Nat) (v:Value) (xs:List Int) (wr:World):Prop where
 bel:Below w.heap.size w wr
 kb:Bk wr w.heap.size (zAb st bl n).toArray 150
 kr:Bl wr (w.heap.size+1) .u8 z32 154
 own:Own wr (w.heap.size+2) 5 .u8 v xs
theorem SumI.add {w:World} {st:W8} {bl:List Int} {n:Nat} {v v':Value} {xs:List Int} {x:Int} {w1 w4:World} (h:SumI w st bl n v xs w1) {o:Obj} (ho:Own w4 (w.heap.size+2) 5 .u8 v' (xs++[x])) (hg:(w1.alloc o).grownBy w4 v.ownBlock):SumI w st bl n v' (xs++[x]) w4:=by
 have hne : ∀ k,k<w.heap.size+2→v.ownBlock ≠ some k:=fun k hk e=>by have:=(h.own.lt k e).1;omega
 have hz:(w1.alloc o).heap.size=w1.heap.size+1:=by simp
 have hb:=h.kb.lt;have hr:=h.kr.lt;have hb2:Below (w.heap.size+2) (w1.alloc o) w4:=⟨hg.os,hg.tape,hg.output,hg.size,fun k hk=>hg.block k (by omega) (fun e=>hne k hk e.symm)⟩
 have hb1:Below w1.heap.size w1 (w1.alloc o):=(Below.refl _ _).alloc (Nat.le_refl _) _;refine ⟨(h.bel.trans (hb1.mono h.bel.size)).trans (hb2.mono (by omega)),?_,?_,ho⟩
 · have:=h.kb.later hb1;unfold Bk at *;rw [hb2.block _ (by omega)];exact this
 · have:=h.kr.later hb1;unfold Bl Bk at *;rw [hb2.block _ (by omega)];exact this
structure OutI (w:World) (o:Nat) (s:W8) (cs:List Value) (i:Nat) (wr:World):Prop where
 bel:Below w.heap.size w wr
 kb:Bk wr w.heap.size cs.toArray 150
 kr:Bl wr (w.heap.size+1) .u8 z32 154
 ko:Bl wr o .u8 ((List.range i).map (zKj s)++List.replicate (32 - i) 0) 154
 ap:w.heap.size+1<o
theorem OutI.put {w wr:World} {o:Nat} {s:W8} {cs:List Value} {i:Nat} (h:OutI w o s cs i wr) (hi:i<32):OutI w o s cs (i+1) (wr.setCell ⟨o,i,none⟩ (.int .u8 (zKj s i))):=by
 have ha:=h.ap;refine ⟨h.bel.setCell (by show w.heap.size≤o;omega) _,h.kb.other _ _ (by show w.heap.size ≠ o;omega),h.kr.other _ _ (by show w.heap.size+1 ≠ o;omega),?_,ha⟩
 have:=h.ko.put i (zKj s i);rw [show 32 - i=(32 - (i+1))+1 by omega,List.replicate_succ,List.set_append_right _ _ (by rw [List.length_map,List.length_range];omega),List.length_map,List.length_range,Nat.sub_self,List.set_cons_zero] at this
 rw [List.range_succ,List.map_append,List.append_assoc];exact this
theorem OutI.at_ {w wr:World} {o:Nat} {s:W8} {cs:List Value} {i:Nat} (h:OutI w o s cs i wr) (hi:i<32):wr.cell? ⟨o,i,none⟩=some (.int .u8 0) :=
 h.ko.cell (by rw [List.getElem?_append_right (by rw [List.length_map,List.length_range];omega),List.length_map,List.length_range,Nat.sub_self,show 32 - i=(32 - (i+1))+1 by omega,List.replicate_succ];rfl)
theorem w8_get (s:W8) {q:Nat} (h:q<8):s.list[q]? = some (s.list.getD q 0):=by
 rw [List.getD_eq_getElem?_getD,List.getElem?_eq_getElem (show q<s.list.length from h)];rfl
def zOU (w:World) (kc m:List Int) (e:Ending) (w':World):Prop:=e = .returned (zDr .u8 (sha kc m))∧Below w.heap.size w w'
theorem zM1 (kc m:List Int) (hk:kc.length=64) (hm:m.length≤500000000) (st:W8) (bl:List Int) (h:StreamOf kc m st bl) (w:World) (hK:Krow w 0 kc) :
 Calls Tryz.prog 107 #[zDw st bl m.length] w (zOU w kc m):=by
 have hK:=Bx.mk hK;have hso:=Bx.mk h;have hbl:=h.len;unfold zDw;clear h;go_enter Tryz.func107,Tryz.ntmps107;go_upto_region 1 with fail;generalize hW:World.alloc (World.alloc w _) _=W
 have HJ:Bx (Below w.heap.size w W∧Bk W w.heap.size (zAb st bl m.length).toArray 150∧Bl W (w.heap.size+1) .u8 z32 154):=by
  rw [←hW];exact ⟨⟨((Below.refl _ _).alloc (Nat.le_refl _) _).alloc (by simp) _,zB (zI _ _ _ (by simp)),(zI _ _ _ (by simp):Bk _ _ _ _)⟩⟩
 clear hW
 have hc72 : ∀ W',Bk W' w.heap.size (zAb st bl m.length).toArray 150→W'.cell? ⟨w.heap.size,72,none⟩=some (.int .u64 (m.length:Int)):=fun W' h=>h.cell 72 (by
  rw [List.getElem?_toArray];unfold zAb;rw [List.getElem?_append_right (by rw [List.length_append,List.length_map,List.length_map,hbl];show 8+64≤72;omega),List.length_append,List.length_map,List.length_map,hbl];rfl)
 have hc72:=Bx.mk hc72;have c72:=hc72.out W HJ.out.2.1;generalize hn:m.length=n at *;have hn:=Bx.mk hn;go_upto_region 3 with fail;generalize hW:World.alloc W _=W1
 have HI:Bx (SumI w st bl n (.slice (some ⟨W.heap.size,0,none⟩) 1 1) (128::List.replicate 0 0) W1):=by
  rw [←hW];have hz:w.heap.size+2≤W.heap.size:=HJ.out.2.2.lt;exact ⟨⟨HJ.out.1.alloc HJ.out.1.size _,zB HJ.out.2.1,zB HJ.out.2.2,Own.lit _ _ _ _ _ _ _ hz (by decide) rfl rfl⟩⟩
 clear hW HJ c72
 go_loopw [4] (fun v4 wr => ∃ (j:Nat) (a:Option Addr) (c:Nat),j≤zEe n∧v4 = .slice a (1+j) c∧Bx (SumI w st bl n (.slice a (1+j) c) (128::List.replicate j 0) wr)) (fun v4 _=>match v4 with | .slice _ x _=>1+zEe n - x | _=>0)
 case atStart=>exact ⟨0,_,_,Nat.zero_le _,rfl,HI⟩
 case round =>
  clear HI;obtain ⟨j,a,c,hj,rfl,HI⟩:=hrel;have c72:=hc72.out wr HI.out.kb;have hpt:=zJa n j hj;have hpz:zEe n<64:=by unfold zEe;omega
  have q0:(0:Int)≤(n:Int):=by omega
  have q1:(n:Int)+(1+(j:Int))≤600000000:=by omega
  by_cases hlt:j<zEe n
  · have t0:(((n:Int)+(1+(j:Int))) % 64 != 56)=true:=by simp;omega
    clear hpt;have hlen:Bx ((128::List.replicate j (0:Int)).length≤1000000000):=⟨by rw [List.length_cons,List.length_replicate];omega⟩
    have hbs:Bx (w.heap.size+2≤wr.heap.size):=⟨HI.out.kr.lt⟩;go_wp2_with (at_builtin;refine zO rfl _ _ 107 rfl 5 .u8 (.int .u8 0) 1 (by omega) Tryz.underlying107 (by kernel_rfl) rfl (w.heap.size+2) _ (128::List.replicate j 0) rfl (HI.out.own.alloc _) 0 ⟨wr.heap.size,0,none⟩ 1 rfl (zn _ _ _) hlen.out (zb hbs.out _) ?_)
    intro v' w4 ho hg _;have HI2:=HI.out.add ho hg;have e:128::List.replicate j (0:Int)++[0]=128::List.replicate (j+1) 0:=by rw [List.cons_append,←List.replicate_succ']
    rw [e] at HI2;obtain ⟨a',c',rfl,-⟩:=HI2.own.form;have e2:(128::List.replicate (j+1) (0:Int)).length=1+(j+1):=by rw [List.length_cons,List.length_replicate];omega
    rw [e2] at HI2 ⊢;replace HI2:=Bx.mk HI2;clear e e2 ho hg HI c72;go_wp2_with fail
    go_roundw
    case rel=>exact ⟨j+1,a',c',by omega,rfl,HI2⟩
    case measure=>show 1+zEe n - (1+(j+1))<1+zEe n - (1+j);omega
  · have t0:(((n:Int)+(1+(j:Int))) % 64 != 56)=false:=by simp;omega
    obtain rfl:j=zEe n:=by omega
    clear hpt;have HI0:Bx (∃ v,v = .slice a (1+zEe n) c∧SumI w st bl n v (128::List.replicate (zEe n) 0++(List.range 0).map (be8 n)) wr):=⟨_,rfl,by rw [List.range_zero,List.map_nil,List.append_nil];exact HI.out⟩
    have hpz2:Bx ((128::List.replicate (zEe n) (0:Int)).length=1+zEe n):=⟨by rw [List.length_cons,List.length_replicate];omega⟩
    generalize hxs:128::List.replicate (zEe n) (0:Int)=xs at *;replace hxs:=Bx.mk hxs;go_wp2_with fail;clear c72 t0 HI
    go_loopw [4,23] (fun v4 v23 wr => ∃ i:Nat,i≤8∧v23 = .int .i64 i∧Bx (SumI w st bl n v4 (xs++(List.range i).map (be8 n)) wr)) (fun _ v23 _=>8 - (intOf v23).toNat)
    case atStart =>
     obtain ⟨v,rfl,h⟩:=HI0.out;exact ⟨0,Nat.zero_le _,rfl,⟨h⟩⟩
    case round =>
     clear HI0;obtain ⟨i,hi,rfl,HI⟩:=hrel;by_cases hlt8:i<8
     · have t0:decide ((i:Int)<8)=true:=by simp;omega
       have e1:(56 - 8 * (i:Int)).toNat=56 - 8 * i:=by omega
       have q2:(0:Int)≤56 - 8 * (i:Int):=by omega
       have q3:(0:Int)≤(i:Int):=by omega
       have q4:(8:Int) * (i:Int)≤56:=by omega
       have hlen:Bx ((xs++(List.range i).map (be8 n)).length≤1000000000):=⟨by rw [List.length_append,List.length_map,List.length_range,hpz2.out];omega⟩
       have hbs:Bx (w.heap.size+2≤wr.heap.size):=⟨HI.out.kr.lt⟩;go_wp2_with (at_builtin;refine zO rfl _ _ 107 rfl 5 .u8 (.int .u8 0) 1 (by omega) Tryz.underlying107 (by kernel_rfl) rfl (w.heap.size+2) _ (xs++(List.range i).map (be8 n)) rfl (HI.out.own.alloc _) (8 * (n:Int) / 2 ^ (56 - 8 * i) % 256) ⟨wr.heap.size,0,none⟩ 1 rfl (zn _ _ _) hlen.out (zb hbs.out _) ?_)
       intro v' w4 ho hg _;rw [←List.append_assoc] at ho;have HI2:=HI.out.add ho hg
       have e:xs++(List.range i).map (be8 n)++[8 * (n:Int) / 2 ^ (56 - 8 * i) % 256]=xs++(List.range (i+1)).map (be8 n):=by
        rw [List.range_succ,List.map_append,List.append_assoc];rfl
       rw [e] at HI2;replace HI2:=Bx.mk HI2;clear e ho hg HI hlen hbs;go_wp2_with fail
       go_roundw
       case rel=>exact ⟨i+1,by omega,by go_num,HI2⟩
       case measure=>simp [intOf];omega
     · have t0:decide ((i:Int)<8)=false:=by simp;omega
       obtain rfl:i=8:=by omega
       have hpd:Bx (xs++(List.range 8).map (be8 n)=pad n):=⟨by rw [←hxs.out];rfl⟩
       rw [hpd.out] at HI;obtain ⟨a4,c4,rfl,hs4⟩:=HI.out.own.form;have hpl:=zNP n;have hcv:=zAJ (P:=Tryz.prog) (w:=wr) 107 5 9 Tryz.underlying107 Tryz.underlying5 Tryz.underlying9 hs4 (9+zEe n) c4 hpl.symm;rw [hpl];have hK1:Bx (Krow wr 0 kc):=⟨fun i v hv=>cell_later HI.out.bel (hK.out i v hv)⟩;have hadd:=zGH kc m (pad n) hk (by have:=hn.out;omega) (zON n) st bl hso.out wr hK1.out
       rw [hn.out] at hadd;replace hadd:=Bx.mk hadd;have hkb:=Bx.mk HI.out.kb;have hsz:Bx ((zAb st bl n).toArray.size=73):=⟨by rw [List.size_toArray,zAZ _ hbl]⟩
       clear hpz2 hxs hs4;generalize hP:pad n=pd at *;replace hP:=Bx.mk hP;go_upto_region 10 with fail
       go_wp2_with (first
        | refine zh rfl _ _ rfl w.heap.size rfl _ _ hkb.out _ Tryz.underlying150 rfl (zBZ _ hsz.out) ?_
        | fail)
       have hadd:=hadd.out;clear hcv;refine hadd.mono ?_;rintro _ w5 ⟨s5,b5,rfl,hso5,hb5⟩;have hso5:=Bx.mk hso5;have hb5:=Bx.mk hb5;clear hpl;generalize hN:(m++pd).length=N at *;replace hN:=Bx.mk hN;have hsz5:Bx ((zAb s5 b5 N).toArray.size=73):=⟨by rw [List.size_toArray,zAZ _ hso5.out.len]⟩
       have hone:=Bx.mk (zDC s5 b5 N);have hkb5:=Bx.mk (HI.out.kb.later hb5.out);have hkr5:=Bx.mk (HI.out.kr.later hb5.out);have hbel5:=Bx.mk (HI.out.bel.trans (hb5.out.mono HI.out.bel.size));have hss:Bx ((zAb st bl n).toArray.size=(zAb s5 b5 N).toArray.size):=⟨by rw [hsz.out,hsz5.out]⟩
       clear hadd HI hb5 hkb;unfold zDw;go_wp2_with (refine zE rfl _ _ _ rfl w.heap.size rfl _ _ rfl _ hkb5.out (zBZ _ hsz5.out) hss.out hone.out ?_);generalize hW:World.alloc (World.setRow w5 _ _) _=W6;have hsr:(w5.setRow w.heap.size (zAb s5 b5 N).toArray).heap.size=w5.heap.size:=by simp [World.setRow]
       have HO:Bx (OutI w w5.heap.size s5 (zAb s5 b5 N) 0 W6):=by
        rw [←hW];have hlt:=hkr5.out.lt;refine ⟨⟨(below_setRow hbel5.out (Nat.le_refl _) _).alloc (by rw [hsr];exact hbel5.out.size) _,?_,?_,?_,hlt⟩⟩
        · exact zB (setRow_heap _ _ _ _ _ (0,0) hkb5.out)
        · have h:=hkr5.out;unfold Bl Bk at *;refine zB ?_;rw [setRow_other _ _ _ _ (by omega)];exact h
        · exact (zI _ _ _ hsr.symm:Bk _ _ _ _)
       try rw [hsr]
       clear hW hsr hkb5 hkr5 hbel5 hss hsz
       go_loopw [40] (fun v40 wr => ∃ i:Nat,i≤32∧v40 = .int .i64 i∧Bx (OutI w w5.heap.size s5 (zAb s5 b5 N) i wr)) (fun v40 _=>32 - (intOf v40).toNat)
       case atStart=>exact ⟨0,Nat.zero_le _,rfl,HO⟩
       case round =>
        clear HO;obtain ⟨i,hi,rfl,HO⟩:=hrel;by_cases hlt32:i<32
        · have t0:decide ((i:Int)<32)=true:=by simp;omega
          obtain ⟨q,hq⟩ : ∃ q,q=i / 4:=⟨_,rfl⟩;obtain ⟨r,hr⟩ : ∃ r,r=i % 4:=⟨_,rfl⟩;have e1:(i:Int) / 4=(q:Int):=by omega
          have e2:(i:Int) % 4=(r:Int):=by omega
          have e3:(24 - 8 * (r:Int)).toNat=24 - 8 * r:=by omega
          have q2:(0:Int)≤24 - 8 * (r:Int):=by omega
          have q3:(0:Int)≤(i:Int):=by omega
          have q4:(0:Int)≤(q:Int):=by omega
          have q5:(q:Int)<8:=by omega
          have q6:(i:Int)<32:=by omega
          have q7:(8:Int) * (r:Int)≤24:=by omega
          have hob:Bx (zKj s5 i=s5.list.getD q 0 / 2 ^ (24 - 8 * r) % 256):=⟨by unfold zKj;rw [hq,hr]⟩
          have cq:wr.cell? ⟨w.heap.size,q,none⟩=some (.int .u32 (s5.list.getD q 0)):=HO.out.kb.cell q (by
           rw [List.getElem?_toArray];unfold zAb;rw [List.append_assoc,List.getElem?_append_left (by rw [List.length_map];show q<8;omega),List.getElem?_map,w8_get s5 (by omega)];rfl)
          have co:=HO.out.at_ hlt32;have fo:=HO.out.ko.frozen i;have HO2:=HO.out.put hlt32;rw [hob.out] at HO2;replace HO2:=Bx.mk HO2;replace hq:=Bx.mk hq;replace hr:=Bx.mk hr;generalize s5.list.getD q 0=xq at *;go_wp2_with fail
          go_roundw
          case rel=>exact ⟨i+1,by omega,by go_num,HO2⟩
          case measure=>simp [intOf];omega
        · have t0:decide ((i:Int)<32)=false:=by simp;omega
          obtain rfl:i=32:=by omega
          have hko:Bx (Bl wr w5.heap.size .u8 (out s5) 154):=⟨by have:=HO.out.ko;rw [Nat.sub_self,List.replicate_zero,List.append_nil] at this;exact this⟩
          have hkr:=Bx.mk HO.out.kr;have hsz:Bx ((((out s5)).map (Value.int .u8)).toArray.size=32):=⟨by rw [List.size_toArray,List.length_map,zGQ]⟩
          have hs2:Bx (((z32.map (Value.int .u8)).toArray).size=(((out s5)).map (Value.int .u8)).toArray.size):=⟨by rw [hsz.out];rfl⟩
          have hone:=Bx.mk (zAR .u8 (out s5));have H1:=Bx.mk (show ∀ cs:Array Value,cs.size=32→(Tryz.prog.info? 154).map (·.size)=some cs.size from fun cs h=>by rw [h];kernel_rfl)
          have hsha:Bx (out s5=sha kc m):=⟨by
           unfold sha;rw [hn.out,hP.out,hso5.out.st_]⟩
          generalize hO:out s5=os at *;go_upto_region 17 with fail
          go_wp2_with (first
           | refine zh rfl _ _ rfl w5.heap.size rfl _ _ hko.out _ Tryz.underlying154 rfl (H1.out _ hsz.out) ?_
           | refine zE rfl _ _ _ rfl (w.heap.size+1) rfl _ _ rfl _ hkr.out (H1.out _ hsz.out) hs2.out hone.out ?_)
          refine bodyPost_ret (v:=zDr .u8 os) (results_cell_row rfl _ _ (w.heap.size+1) 154 _ (0,0) _ rfl (hkr.out.whole _) Tryz.underlying154 rfl (H1.out _ hsz.out)) rfl ⟨by rw [hsha.out],below_setRow HO.out.bel (by omega) _⟩
structure PadI (w:World) (v:Value) (xs:List Int) (wr:World):Prop where
 own:Own wr w.heap.size 5 .u8 v xs
 bel:Below w.heap.size w wr
theorem PadI.add {w:World} {v v':Value} {xs:List Int} {x:Int} {w1 w4:World} (h:PadI w v xs w1) {o:Obj} (ho:Own w4 w.heap.size 5 .u8 v' (xs++[x])) (hg:(w1.alloc o).grownBy w4 v.ownBlock):PadI w v' (xs++[x]) w4:=by
 have hne : ∀ k,k<w.heap.size→v.ownBlock ≠ some k:=fun k hk e=>by have:=(h.own.lt k e).1;omega
 have hs:=h.bel.size;have hz:(w1.alloc o).heap.size=w1.heap.size+1:=by simp
 have hb2:Below w.heap.size (w1.alloc o) w4:=⟨hg.os,hg.tape,hg.output,hg.size,fun k hk=>hg.block k (by omega) (fun e=>hne k hk e.symm)⟩
 have hb1:Below w1.heap.size w1 (w1.alloc o):=(Below.refl _ _).alloc (Nat.le_refl _) _;exact ⟨ho,(h.bel.trans (hb1.mono h.bel.size)).trans hb2⟩
def vi (z:Nat):List Int:=if h:z<128 then [(z:Int)] else ((z % 128+128:Nat):Int)::vi (z / 128)
theorem zB8 {z:Nat} (h:z<128):vi z=[(z:Int)]:=by rw [vi,dif_pos h]
theorem zGw {z:Nat} (h : ¬z<128):vi z=((z % 128+128:Nat):Int)::vi (z / 128):=by rw [vi,dif_neg h]
theorem zKZ (z:Nat):Byt (vi z):=by
 induction z using Nat.strongRecOn with
 | _ z ih =>
   by_cases h:z<128
   · rw [zB8 h];intro x hx;rw [List.mem_singleton] at hx;omega
   · rw [zGw h];intro x hx;rcases List.mem_cons.1 hx with rfl | hx
     · omega
     · exact ih (z / 128) (by omega) x hx
theorem zMb (k:Nat) : ∀ z:Nat,z<128 ^ (k+1)→(vi z).length≤k+1:=by
 induction k with
 | zero=>intro z h;rw [zB8 (by omega)];simp
 | succ k ih =>
   intro z h;by_cases hz:z<128
   · rw [zB8 hz];simp
   · rw [zGw hz,List.length_cons];have:=ih (z / 128) (by rw [Nat.pow_succ] at h;omega)
     omega
theorem or128 : ∀ x:Fin 256,bits .or .u8 (x.val:Int) 128=((x.val % 128+128:Nat):Int):=by decide +kernel
theorem or_128 (z:Nat):bits .or .u8 ((z:Int) % 256) 128=((z % 128+128:Nat):Int):=by
 have:=or128 ⟨z % 256,by omega⟩
 simp only at this;rw [show (z:Int) % 256=((z % 256:Nat):Int) by omega,this]
 omega
theorem zHa (z:Nat) (h:z<9223372036854775808):bits .xor .u64 (z:Int) 0=(z:Int):=by
 have e:bits .xor .u64 (z:Int) ((0:Nat):Int)=IntKind.u64.wrap ((z % 2 ^ 64 ^^^ 0 % 2 ^ 64:Nat):Int):=by
  simp only [bits,BitVec.ofInt_natCast,BitVec.toNat_xor,BitVec.toNat_ofNat];rfl
 have e2:z % 2 ^ 64=z:=Nat.mod_eq_of_lt (by have:(2:Nat) ^ 64=18446744073709551616:=(by decide);omega)
 rw [e2,Nat.zero_mod,Nat.xor_zero] at e;rw [show (0:Int)=((0:Nat):Int) from rfl,e,IntKind.wrap_u64];omega
def zF9 (w:World) (xs:List Int) (e:Ending) (w':World):Prop := ∃ v,e = .returned v∧PadI w v xs w'
structure ViI (w:World) (z0 z:Nat) (out:List Int) (v:Value) (wr:World):Prop where
 eq:out++vi z=vi z0
 pad:PadI w v out wr
 few:out.length≤20
theorem ViI.start (w:World) (z0:Nat):ViI w z0 z0 [] (.slice none 0 0) w:=⟨rfl,⟨Own.nil _ _ _ _,Below.refl _ _⟩,by simp⟩
theorem ViI.len {w wr:World} {z0 z:Nat} {out:List Int} {v:Value} (h:ViI w z0 z out v wr) (hz:z0≤2000000000000):out.length≤6:=by
 have h1:=zMb 6 z0 (by have:128 ^ (6+1)=562949953421312:=(by decide);omega)
 have h2:=congrArg List.length h.eq;rw [List.length_append] at h2
 have h3:1≤(vi z).length:=by
  by_cases hz:z<128
  · rw [zB8 hz];simp
  · rw [zGw hz];simp
 omega
theorem ViI.step {w w1 w4:World} {z0 z:Nat} {out:List Int} {v v':Value} (h:ViI w z0 z out v w1) (hz0:z0≤2000000000000) (hz : ¬z<128) {o:Obj} (ho:Own w4 w.heap.size 5 .u8 v' (out++[((z % 128+128:Nat):Int)])) (hg:(w1.alloc o).grownBy w4 v.ownBlock) :
 ViI w z0 (z / 128) (out++[((z % 128+128:Nat):Int)]) v' w4 :=
 ⟨by rw [List.append_assoc,List.singleton_append,←zGw hz];exact h.eq,h.pad.add ho hg,by have:=h.len hz0;rw [List.length_append,List.length_singleton];omega⟩
theorem zGY (n:Nat) (hn:n≤1000000000000) (w:World):Calls Tryz.prog 55 #[(n:Int)] w (zF9 w (vi (2 * n))):=by
 obtain ⟨z0,hzn⟩ : ∃ z0,z0=2 * n:=⟨_,rfl⟩
 have x0:bits .xor .u64 ((n:Int) * 2) ((n:Int) / 9223372036854775808)=(z0:Int):=by
  rw [show (n:Int) / 9223372036854775808=0 by omega,show (n:Int) * 2=(z0:Int) by omega]
  exact zHa z0 (by omega)
 have hz0:z0≤2000000000000:=by omega
 rw [←hzn];replace hzn:=Bx.mk hzn;go_enter Tryz.func55,Tryz.ntmps55;go_upto_region 2 with fail
 try rw [x0]
 clear x0;have HI:=Bx.mk (ViI.start w z0);go_wp2_with fail
 go_loopw [3,4] (fun v3 v4 wr => ∃ (z:Nat) (out:List Int),z≤z0∧v3 = .int .u64 z∧Bx (ViI w z0 z out v4 wr)) (fun v3 _ _=>(intOf v3).toNat)
 case atStart=>exact ⟨z0,[],Nat.le_refl _,rfl,HI⟩
 case round =>
  clear HI;obtain ⟨z,out,hz,rfl,HI⟩:=hrel;have hlen:=HI.out.len hz0;have hlen2:Bx (out.length≤1000000000):=⟨by omega⟩
  have q0:(0:Int)≤(z:Int):=by omega
  have q1:(z:Int)≤2000000000000:=by omega
  by_cases hlt:128≤z
  · have t0:decide (127<(z:Int))=true:=by simp;omega
    obtain ⟨z',hz'⟩ : ∃ z',z'=z / 128:=⟨_,rfl⟩;obtain ⟨dg,hdg⟩ : ∃ dg,dg=z % 128+128:=⟨_,rfl⟩;have hc:=Bx.mk (show bits .or .u8 ((z:Int) % 256) 128=(dg:Int) by rw [or_128,←hdg])
    have e2:(z:Int) / 128=(z':Int):=by omega
    have q4:(0:Int)≤(dg:Int):=by omega
    have q5:(dg:Int)<256:=by omega
    have hz'2:z'<z:=by omega
    replace hz':=Bx.mk hz';replace hdg:=Bx.mk hdg;go_wp2_with (at_builtin;refine zO rfl _ _ 107 rfl 5 .u8 (.int .u8 0) 1 (by omega) Tryz.underlying107 (by kernel_rfl) rfl w.heap.size _ out rfl (HI.out.pad.own.alloc _) (bits .or .u8 ((z:Int) % 256) 128) ⟨wr.heap.size,0,none⟩ 1 rfl (zn _ _ _) hlen2.out (zb HI.out.pad.bel.size _) ?_)
    intro v' w4 ho hg _
    have HI2:Bx (ViI w z0 z' (out++[(dg:Int)]) v' w4):=by
     rw [hz'.out,hdg.out];rw [hc.out,hdg.out] at ho;exact ⟨HI.out.step hz0 (by omega) ho hg⟩
    clear ho hg HI hc;go_wp2_with fail
    go_roundw
    case rel=>exact ⟨z',_,by omega,rfl,HI2⟩
    case measure=>simp [intOf];omega
  · have t0:decide (127<(z:Int))=false:=by simp;omega
    have e1:(z:Int) % 256=(z:Int):=by omega
    have heq:Bx (out++[(z:Int)]=vi z0):=⟨by rw [←zB8 (by omega)];exact HI.out.eq⟩
    go_wp2_with (at_builtin;refine zO rfl _ _ 107 rfl 5 .u8 (.int .u8 0) 1 (by omega) Tryz.underlying107 (by kernel_rfl) rfl w.heap.size _ out rfl (HI.out.pad.own.alloc _) (z:Int) ⟨wr.heap.size,0,none⟩ 1 rfl (zn _ _ _) hlen2.out (zb HI.out.pad.bel.size _) ?_)
    intro v' w4 ho hg _;have HI2:=Bx.mk (HI.out.pad.add ho hg);rw [heq.out] at HI2;clear ho hg HI;go_wp2_with fail;go_ret;exact ⟨_,rfl,HI2.out⟩
end
end Go.Proofs.YtfcbajmjaifjlaaGreatDoor
