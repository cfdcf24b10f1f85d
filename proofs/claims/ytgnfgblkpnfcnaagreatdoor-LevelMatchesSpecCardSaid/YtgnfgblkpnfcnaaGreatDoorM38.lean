/- Shp, Stm: joined by program, for one claim. -/
import Derived.Test.YtgnfgblkpnfcnaaGreatDoorM37
import Derived.Laws.CopyRow
set_option maxHeartbeats 1000000
set_option maxRecDepth 100000
set_option linter.unusedVariables false
set_option linter.unusedSimpArgs false
namespace Go.Proofs.YtgnfgblkpnfcnaaGreatDoor
section
open Go.RowKit
def iv:W8:=⟨1779033703,3144134277,1013904242,2773480762,1359893119,2600822924,528734635,1541459225⟩
def blk (m:List Int) (q:Nat):List Int:=(m.drop (64 * q)).take 64
def zCe (kc m:List Int):Nat→W8
 | 0=>iv
 | q+1=>zCl kc (blk m q) (zCe kc m q)
theorem zBg {m:List Int} {q:Nat} (h:64 * (q+1)≤m.length):(blk m q).length=64:=by
 unfold blk;rw [List.length_take,List.length_drop];omega
theorem zBf {m:List Int} {q:Nat} (h:64 * (q+1)≤m.length) (x:List Int):blk (m++x) q=blk m q:=by
 unfold blk;rw [List.drop_append_of_le_length (by omega),List.take_append_of_le_length (by rw [List.length_drop];omega)]
theorem zCf (kc m x:List Int) : ∀ q,64 * q≤m.length→zCe kc (m++x) q=zCe kc m q
 | 0,_=>rfl
 | q + 1, h => by
   unfold zCe;rw [zBf h,zCf kc m x q (by omega)]
def zJK (n:Nat):Nat:=(119 - n % 64) % 64
def be8 (n i:Nat):Int:=((8 * n:Nat):Int) / 2 ^ (56 - 8 * i) % 256
def pad (n:Nat):List Int:=128::List.replicate (zJK n) 0++(List.range 8).map (be8 n)
theorem zJH (n:Nat):(pad n).length=9+zJK n:=by unfold pad;simp;omega
theorem zJJ (m:List Int):64 * ((m++pad m.length).length / 64)=(m++pad m.length).length:=by
 rw [List.length_append,zJH];unfold zJK;omega
theorem zJL (n j:Nat) (hj:j≤zJK n):(n+1+j) % 64=56 ↔ j=zJK n:=by unfold zJK at *; omega
theorem be8_bd (n i:Nat):0≤be8 n i∧be8 n i≤255:=by unfold be8;omega
theorem zB0 (n:Nat):Byt (pad n):=by
 intro x hx;unfold pad at hx;rw [List.cons_append,List.mem_cons,List.mem_append,List.mem_replicate,List.mem_map] at hx;rcases hx with rfl | ⟨-,rfl⟩ | ⟨i,-,rfl⟩
 · omega
 · omega
 · exact be8_bd n i
def zI4 (s:W8) (i:Nat):Int:=s.list.getD (i / 4) 0 / 2 ^ (24 - 8 * (i % 4)) % 256
def out (s:W8):List Int:=(List.range 32).map (zI4 s)
theorem zI6 (s:W8):(out s).length=32:=by unfold out;rw [List.length_map,List.length_range]
theorem zBz (s:W8):Byt (out s):=by
 intro x hx;unfold out at hx;obtain ⟨i,-,rfl⟩:=List.mem_map.1 hx;unfold zI4;omega
def sha (kc m:List Int):List Int:=out (zCe kc (m++pad m.length) ((m++pad m.length).length / 64))
structure StreamOf (kc m:List Int) (st:W8) (bl:List Int):Prop where
 st_:st=zCe kc m (m.length / 64)
 len:bl.length=64
 tail:bl.take (m.length % 64)=m.drop (64 * (m.length / 64))
 byt:Byt bl
theorem zMw (kc:List Int):StreamOf kc [] iv (List.replicate 64 0):=⟨rfl,by rw [List.length_replicate],rfl,fun x hx=>by rw [List.mem_replicate] at hx;omega⟩
def zEH (bl t:List Int) (n k:Nat):List Int:=bl.take n++t.take k++bl.drop (n+k)
theorem zEI {bl t:List Int} {n k:Nat} (hl:bl.length=64) (hk:k≤t.length) (hn:n+k≤64):(zEH bl t n k).length=64:=by
 unfold zEH;rw [List.length_append,List.length_append,List.length_take,List.length_take,List.length_drop];omega
theorem zMv {kc m:List Int} {st:W8} {bl t:List Int} (h:StreamOf kc m st bl) {k:Nat} (hk:k≤t.length) (ht:Byt t) (he:m.length % 64+k=64) :
 StreamOf kc (m++t.take k) (zCl kc (zEH bl t (m.length % 64) k) st) (zEH bl t (m.length % 64) k):=by
 have hf:=zEI (n:=m.length % 64) h.len hk (by omega)
 have hl:(m++t.take k).length=64 * (m.length / 64+1):=by rw [List.length_append,List.length_take];omega
 have hq:(m++t.take k).length / 64=m.length / 64+1:=by omega
 have hb:blk (m++t.take k) (m.length / 64)=zEH bl t (m.length % 64) k:=by
  unfold blk zEH;rw [List.drop_append_of_le_length (by omega),←h.tail,List.drop_of_length_le (by rw [h.len];omega),List.append_nil,List.take_of_length_le (by rw [List.length_append,List.length_take,List.length_take,h.len];omega)]
 refine ⟨?_,hf,?_,?_⟩
 · rw [hq,zCe,hb,zCf _ _ _ _ (by omega),←h.st_]
 · rw [hl,Nat.mul_mod_right,List.take_zero,Nat.mul_div_cancel_left _ (by omega),List.drop_of_length_le (by omega)]
 · unfold zEH;exact ((h.byt.take _).append (ht.take _)).append (h.byt.drop _)
theorem zMx {kc m:List Int} {st:W8} {bl t:List Int} (h:StreamOf kc m st bl) (ht:Byt t) (he:m.length % 64+t.length<64) :
 StreamOf kc (m++t) st (zEH bl t (m.length % 64) t.length):=by
 have hf:=zEI (n:=m.length % 64) (k:=t.length) h.len (Nat.le_refl _) (by omega)
 have hl:(m++t).length=m.length+t.length:=List.length_append;have hq:(m++t).length / 64=m.length / 64:=by omega
 have hm:(m++t).length % 64=m.length % 64+t.length:=by omega
 refine ⟨?_,hf,?_,?_⟩
 · rw [hq,zCf _ _ _ _ (by omega),←h.st_]
 · rw [hq,hm,List.drop_append_of_le_length (by omega),←h.tail]
   unfold zEH;rw [List.take_of_length_le (l:=t) (Nat.le_refl _),List.take_append_of_le_length (by rw [List.length_append,List.length_take,h.len];omega),List.take_of_length_le]
   rw [List.length_append,List.length_take,h.len];omega
 · unfold zEH;exact ((h.byt.take _).append (ht.take _)).append (h.byt.drop _)
def zMj (st:W8) (bl:List Int) (n:Nat):List Value:=st.list.map (Value.int .u32)++bl.map (Value.int .u8)++[.int .u64 (n:Int)]
def zMq (st:W8) (bl:List Int) (n:Nat):Value:=.agg (zMj st bl n).toArray
end
section
open Go.RowKit Go.Sort
theorem zL2 (b:Nat) : ∀ (vs:List Value) (o:Nat) (w:World) (k:Nat),k ≠ b→(w.setCells b o vs).heap[k]? = w.heap[k]?
 | [],_,_,_,_=>rfl
 | v :: vs, o, w, k, hk => by
   unfold World.setCells;rw [zL2 b vs _ _ k hk,heap_setCell_other w ⟨b,o,none⟩ k v hk]
theorem zBZ (B b:Nat) : ∀ (vs:List Value) (o:Nat) (w:World),B≤b→Below B w (w.setCells b o vs)
 | [],_,_,_=>Below.refl _ _
 | v :: vs, o, w, h => by
   unfold World.setCells;exact ((Below.refl B w).setCell (p:=⟨b,o,none⟩) h v).trans (zBZ B b vs (o+1) _ h)
theorem str_ne {t:List Int} (h:t.length ≠ 0):(strOfNums t).toList.isEmpty=false:=by
 rw [ByteArray.toList_eq,strOfNums_data];cases t <;> simp_all
theorem zMm (st:W8) {bl:List Int} (h:bl.length=64) (n n':Nat):(zMj st bl n).set 72 (.int .u64 (n':Int))=zMj st bl n':=by
 unfold zMj;rw [List.set_append_right _ _ (by rw [List.length_append,List.length_map,List.length_map,h];show 8+64≤72;omega),List.length_append,List.length_map,List.length_map,h]
 rfl
theorem Bk.cells {b:Nat} {t:TypeId} : ∀ (vs:List Value) (o:Nat) (L:List Value) (w:World),Bk w b L.toArray t→o+vs.length≤L.length→Bk (w.setCells b o vs) b (L.take o++vs++L.drop (o+vs.length)).toArray t
 | [], o, L, w, h, _ => by
   rw [List.append_nil,List.length_nil,Nat.add_zero,List.take_append_drop];exact h
 | v :: vs, o, L, w, h, hl => by
   rw [List.length_cons] at hl;have h1:=h.set o v;rw [List.setIfInBounds_toArray] at h1;have h2:=Bk.cells vs (o+1) _ _ h1 (by rw [List.length_set];omega)
   unfold World.setCells
   have e:(L.set o v).take (o+1)++vs++(L.set o v).drop (o+1+vs.length)=L.take o++v::vs++L.drop (o+(v::vs).length):=by
    rw [List.take_set,List.drop_set_of_lt (by omega),List.length_cons,show o+(vs.length+1)=o+1+vs.length by omega]
    rw [List.take_succ_eq_append_getElem (by omega),List.set_append_right _ _ (by rw [List.length_take];omega),List.length_take,Nat.min_eq_left (by omega),Nat.sub_self,List.set_cons_zero]
    simp
   rw [e] at h2;exact h2
theorem zEJ {P:Program} (w:World) (s:List Int) (hs:Byt s) (k:Nat):(Builtin.firstCells 1 k (.string (strOfNums s))).run P w = .ok ((s.take k).map (Value.int .u8)).toArray w:=by
 have h1:(strOfNums s).extract 0 k=strOfNums (s.take k):=by
  rw [zMs,List.drop_zero,Nat.sub_zero]
 show (pure (((strOfNums s).extract 0 k).data.map fun b=>Value.int .u8 (b.toNat:Int)):Sem (Array Value)).run P w=_
 rw [h1]
 have h2:((strOfNums (s.take k)).data.map fun b=>Value.int .u8 (b.toNat:Int))=((s.take k).map (Value.int .u8)).toArray:=by
  have h3:=zBl (hs.take k);apply Array.ext';rw [Array.toList_map]
  conv=>rhs;rw [←h3]
  unfold bs;rw [List.map_map];rfl
 rw [h2];rfl
theorem zLl {P:Program} (w:World) (dT sT ty elem:TypeId) (g o dLen dCap:Nat) (t:TypeId) (cs:List Value) (s:List Int) (hs:Byt s) (k:Nat) (hk:k=min s.length dLen)
 (hu:P.underlying dT=some (.slice elem)) (hsz:(P.info? elem).map (·.size)=some 1) (hg:w.heap[g]? = some (.cells cs.toArray t (0,0))) (hfit:o+k≤cs.length) :
 (Builtin.copy_ #[dT,sT] ty #[.slice (some ⟨g,o,none⟩) dLen dCap,.string (strOfNums s)]).run P w = .ok (goInt k) (w.setRow g (cs.take o++(s.take k).map (Value.int .u8)++cs.drop (o+k)).toArray):=by
 have hl:((s.take k).map (Value.int .u8)).length=k:=by rw [List.length_map,List.length_take];omega
 have hst:=run_storeCells_at P g o t ((s.take k).map (Value.int .u8)) 0 _ w hg (by rw [hl,List.size_toArray];omega) (fun v hv=>by
  obtain ⟨x,_,rfl⟩:=List.mem_map.1 hv;rfl)
 have hf:=zEJ (P:=P) w s hs k;have hm:Nat.min (strOfNums s).size dLen=k:=by rw [strOfNums_size];exact hk.symm
 rw [Nat.add_zero,hl] at hst;clear hl;generalize (s.take k).map (Value.int .u8)=vs at *;cases hq:P.info? elem with
 | none=>simp [hq] at hsz
 | some i =>
   have hi:i.size=1:=by simpa [hq] using hsz
   simp [Builtin.copy_,run_underlying hu,Builtin.lenOf,sizeOf,typeInfo,hq,hi,hm,hf,hst]
theorem zOO {P:Program} {w:World} {ops:Array Oper} {rest:List Oper} {o:Oper} {a:Act} {Q:Exit→Act→World→Prop} (hgd:o.guard=none) (d s:Operand) (dT sT:TypeId)
 (ho:o.op = .call { callee:=.builtin .copy,args:=#[d,s],argTypes:=#[dT,sT] }) (elem:TypeId) (hu:P.underlying dT=some (.slice elem)) (hsz:(P.info? elem).map (·.size)=some 1)
 (g off dLen dCap:Nat) (hd:a.eval d = .slice (some ⟨g,off,none⟩) dLen dCap) (cs:List Value) (xs:List Int) (hx:Byt xs) (hs:a.eval s = .string (strOfNums xs)) (t:TypeId)
 (hg:w.heap[g]? = some (.cells cs.toArray t (0,0))) (k:Nat) (hk:k=min xs.length dLen) (hfit:off+k≤cs.length)
 (h:wpList P ops Q rest (a.put o.dst (goInt k)) (w.setRow g (cs.take off++(xs.take k).map (Value.int .u8)++cs.drop (off+k)).toArray)):wpList P ops Q (o::rest) a w:=by
 refine wpList_plain hgd fun K hK=>?_;have hr:=zLl (P:=P) w dT sT o.type elem g off dLen dCap t cs xs hx k hk hu hsz hg hfit;unfold Oper.wp execOp;simp only [ho,resolve,invoke,builtin,Sem.run_bind,Sem.run_pure,Result.andThen_ok,List.map_toArray,List.map_cons,List.map_nil,hd,hs,hr];exact hK _ _ h
theorem zMl (st:W8) {bl:List Int} (h:bl.length=64) (n:Nat):(zMj st bl n).length=73:=by
 unfold zMj;rw [List.length_append,List.length_append,List.length_map,List.length_map,h];rfl
theorem zMk (st:W8) {bl t:List Int} (h:bl.length=64) (n at_ k:Nat) (hk:k≤t.length) (ha:at_+k≤64) :
 (zMj st bl n).take (8+at_)++(t.take k).map (Value.int .u8)++(zMj st bl n).drop (8+at_+k)=zMj st (zEH bl t at_ k) n:=by
 have h8:(st.list.map (Value.int .u32)).length=8:=rfl;have e : ∀ b:List Int,zMj st b n=st.list.map (Value.int .u32)++(b.map (Value.int .u8)++[.int .u64 (n:Int)]):=fun b=>List.append_assoc _ _ _;rw [e,e];unfold zEH;rw [List.take_append,List.drop_append,h8,List.take_of_length_le (by omega),List.drop_of_length_le (by omega),List.nil_append,show 8+at_ - 8=at_ by omega,show 8+at_+k - 8=at_+k by omega]
 rw [List.take_append_of_le_length (by rw [List.length_map];omega),List.drop_append_of_le_length (by rw [List.length_map];omega)]
 simp only [List.map_append,List.map_take,List.map_drop,List.append_assoc]
structure StmI (w:World) (kc m t:List Int) (j:Nat) (st:W8) (bl:List Int) (wr:World):Prop where
 bel:Below w.heap.size w wr
 so:StreamOf kc (m++t.take j) st bl
 kb:Bk wr w.heap.size (zMj st bl (m.length+j)).toArray 158
 kr:Bk wr (w.heap.size+1) Tryz.zeroCells158 158
def zAO (w:World) (kc m:List Int) (e:Ending) (w':World):Prop := ∃ st bl,e = .returned (zMq st bl m.length)∧StreamOf kc m st bl∧Below w.heap.size w w'
theorem zMb (kc m t:List Int) (hk:kc.length=64) (hm:m.length+t.length≤1000000000) (ht:Byt t) (st:W8) (bl:List Int) (h:StreamOf kc m st bl) (w:World) (hK:zAX w 1 kc) :
 Calls Tryz.prog 135 #[zMq st bl m.length,.string (strOfNums t)] w (zAO w kc (m++t)):=by
 have hK:=Bx.mk hK;have hbt:=Bx.mk ht;have hso:=Bx.mk h;unfold zMq;clear h ht;go_enter Tryz.func135,Tryz.ntmps135;go_wp2_with fail;generalize hW:World.alloc (World.alloc w _) _=W
 have HI:Bx (StmI w kc m t 0 st bl W):=by
  rw [←hW];exact ⟨⟨((Below.refl _ _).alloc (Nat.le_refl _) _).alloc (by simp) _,by rw [List.take_zero,List.append_nil];exact hso.out,zE (zD _ _ _ (by simp)),zD _ _ _ (by simp)⟩⟩
 clear hW hso
 go_loopw [1] (fun v1 wr => ∃ j:Nat,j≤t.length∧v1 = .string (strOfNums (t.drop j))∧Bx (∃ st bl,StmI w kc m t j st bl wr)) (fun v1 _=>match v1 with | .string s=>s.size | _=>0)
 case atStart=>exact ⟨0,Nat.zero_le _,by rw [List.drop_zero],⟨_,_,HI.out⟩⟩
 case round =>
  clear HI;obtain ⟨j,hj,rfl,HI⟩:=hrel;obtain ⟨s1,b1,HI⟩:=HI.out;replace HI:=Bx.mk HI;have hn:(strOfNums (t.drop j)).size=t.length - j:=by rw [strOfNums_size,List.length_drop]
  by_cases hlt:j<t.length
  · have t0:(!(strOfNums (t.drop j)).toList.isEmpty)=true:=by rw [str_ne (by rw [List.length_drop];omega)];rfl
    obtain ⟨at_,hat⟩ : ∃ a,a=(m.length+j) % 64:=⟨_,rfl⟩;obtain ⟨k,hk2⟩ : ∃ k,k=min (t.length - j) (64 - at_):=⟨_,rfl⟩;have hat8:at_<64:=by omega
    have hk8:0<k∧at_+k≤64∧j+k≤t.length:=by omega
    have hl1:=HI.out.so.len
    have c72:wr.cell? ⟨w.heap.size,72,none⟩=some (.int .u64 ((m.length+j:Nat):Int)):=HI.out.kb.cell 72 (by
     rw [List.getElem?_toArray];unfold zMj;rw [List.getElem?_append_right (by rw [List.length_append,List.length_map,List.length_map,hl1];show 8+64≤72;omega),List.length_append,List.length_map,List.length_map,hl1];rfl)
    have e1:((m.length+j:Nat):Int) % 64=(at_:Int):=by omega
    have hkb:=Bx.mk HI.out.kb;have hbd:=Bx.mk (hbt.out.drop j);generalize hn0:m.length+j=n0 at *;replace hn0:=Bx.mk hn0;replace hat:=Bx.mk hat
    replace hk2:=Bx.mk hk2;replace hl1:=Bx.mk hl1;have q0:(0:Int)≤(at_:Int):=by omega
    have q1:(at_:Int)≤64:=by omega
    go_upto_region 3 with fail;clear c72 e1;have hkk:k=min (t.drop j).length (64 - at_):=by rw [List.length_drop];exact hk2.out
    have z2:(strOfNums (t.drop j)).extract k (t.length - j)=strOfNums (t.drop (j+k)):=by
     rw [zMs,List.drop_drop,List.take_of_length_le (by rw [List.length_drop];omega)]
    have hfit:8+at_+k≤(zMj s1 b1 n0).length:=by rw [zMl _ hl1.out];omega
    have hu8:(Tryz.prog.info? 5).map (·.size)=some 1:=by kernel_rfl
    have q2:(0:Int)≤(k:Int):=by omega
    have q3:(k:Int)≤((t.length - j:Nat):Int):=by omega
    replace z2:=Bx.mk z2;replace hkk:=Bx.mk hkk;go_upto_region 4 with (refine zOO rfl _ _ _ _ rfl 5 Tryz.underlying84 hu8 w.heap.size (8+at_) _ _ rfl (zMj s1 b1 n0) (t.drop j) hbd.out rfl _ hkb.out k hkk.out hfit ?_);generalize hW:World.setRow wr _ _=W1;have hfl:Bx ((zEH b1 (t.drop j) at_ k).length=64):=⟨zEI hl1.out (by rw [List.length_drop];omega) hk8.2.1⟩
    have HJ:Bx (Below w.heap.size w W1∧Bk W1 w.heap.size (zMj s1 (zEH b1 (t.drop j) at_ k) n0).toArray 158∧Bk W1 (w.heap.size+1) Tryz.zeroCells158 158):=by
     rw [←hW,←zMk s1 hl1.out n0 at_ k (by rw [List.length_drop];omega) hk8.2.1]
     simp only [List.map_take,List.map_drop,List.append_assoc];refine ⟨below_setRow HI.out.bel (Nat.le_refl _) _,setRow_heap _ _ _ _ _ (0,0) hkb.out,?_⟩;have hkr:=HI.out.kr;unfold Bk at *;rw [setRow_other _ _ _ _ (by omega)];exact hkr
    have hst:Bx ((at_+k=64→StreamOf kc (m++t.take (j+k)) (zCl kc (zEH b1 (t.drop j) at_ k) s1) (zEH b1 (t.drop j) at_ k))∧(at_+k ≠ 64→StreamOf kc (m++t.take (j+k)) s1 (zEH b1 (t.drop j) at_ k))):=by
     have e:m++t.take (j+k)=(m++t.take j)++(t.drop j).take k:=by rw [List.append_assoc,←List.take_add]
     have e2:(m++t.take j).length % 64=at_:=by rw [List.length_append,List.length_take,Nat.min_eq_left hj,hn0.out];exact hat.out.symm
     rw [e];refine ⟨⟨fun h=>?_,fun h=>?_⟩⟩
     · have:=zMv (t:=t.drop j) (k:=k) HI.out.so (by rw [List.length_drop];omega) hbd.out (by rw [e2];exact h)
       rwa [e2] at this
     · have hkl:k=(t.drop j).length:=by rw [List.length_drop];have:=hk2.out;omega
       have:=zMx (t:=t.drop j) HI.out.so hbd.out (by rw [e2,←hkl];omega)
       rw [e2,←hkl] at this;rw [List.take_of_length_le (l:=t.drop j) (i:=k) (by omega)]
       exact this
    have hbf:Bx (Byt (zEH b1 (t.drop j) at_ k)):=⟨by unfold zEH;exact ((HI.out.so.byt.take _).append (hbd.out.take _)).append (HI.out.so.byt.drop _)⟩
    clear hW HI hkb hkk hl1 hbd hfit;generalize zEH b1 (t.drop j) at_ k=b2 at *;have z2:=z2.out;go_upto_region 5 with fail;clear z2
    have c72:W1.cell? ⟨w.heap.size,72,none⟩=some (.int .u64 (n0:Int)):=HJ.out.2.1.cell 72 (by
     rw [List.getElem?_toArray];unfold zMj;rw [List.getElem?_append_right (by rw [List.length_append,List.length_map,List.length_map,hfl.out];show 8+64≤72;omega),List.length_append,List.length_map,List.length_map,hfl.out];rfl)
    have f72:=HJ.out.2.1.frozen 72;have q4:(n0:Int)+(k:Int)<18446744073709551616:=by have:=hn0.out;omega
    have q5:(0:Int)≤(n0:Int):=by omega
    by_cases hfull:at_+k=64
    · have t1:((at_:Int)+(k:Int) == 64)=true:=by simp;omega
      have hs1:=hst.out.1 hfull;go_upto_region 7 with fail;generalize hW:World.setCell W1 _ _=W2
      have HJ2:Bx (Below w.heap.size w W2∧Bk W2 w.heap.size (zMj s1 b2 (n0+k)).toArray 158∧Bk W2 (w.heap.size+1) Tryz.zeroCells158 158):=by
       rw [←hW,show (n0:Int)+(k:Int)=((n0+k:Nat):Int) by omega]
       refine ⟨⟨HJ.out.1.setCell (by show w.heap.size≤w.heap.size;omega) _,?_,HJ.out.2.2.other _ _ (by show w.heap.size+1 ≠ w.heap.size;omega)⟩⟩
       have:=HJ.out.2.1.set 72 (.int .u64 ((n0+k:Nat):Int));rwa [List.setIfInBounds_toArray,zMm s1 hfl.out] at this
      clear hW c72 f72 HJ hst;have hs1:=Bx.mk hs1
      have hsl:Bx (Sl W2 .u8 (some ⟨w.heap.size,8,none⟩) b2):=⟨fun i x hx=>⟨_,8,rfl,HJ2.out.2.1.cell (8+i) (by
       rw [List.getElem?_toArray];unfold zMj;rw [List.append_assoc,List.getElem?_append_right (by rw [List.length_map];show 8≤8+i;omega),List.length_map,show 8+i - s1.list.length=i from by show 8+i - 8=i;omega,List.getElem?_append_left (by rw [List.length_map];exact (List.getElem?_eq_some_iff.1 hx).1),List.getElem?_map,hx];rfl)⟩⟩
      have hK2:Bx (zAX W2 1 kc):=⟨fun i v hv=>cell_later HJ2.out.1 (hK.out i v hv)⟩;have hcm:=Bx.mk fun dk osk=>Calls.regrown_of (zCp s1 (some ⟨w.heap.size,8,none⟩) 64 b2 kc hk hfl.out (by omega) hbf.out (grow (redrawn W2 dk) osk) (hsl.out.below (below_regrown W2 dk osk)) (fun i v hv=>cell_later (below_regrown W2 dk osk) (hK2.out i v hv)))
      generalize zCl kc b2 s1=s2 at *;obtain ⟨sa,sb,sc,sd,se,sf,sg,sh⟩:=s1;dsimp only at hcm;obtain ⟨d0,d1,d2,d3,d4,d5,d6,d7⟩:=HJ2.out.2.1.r8;refine zAM 6 (by kernel_rfl) (by kernel_rfl) ?_
      simp only [List.take_succ_cons,List.take_zero,List.drop_succ_cons,List.drop_zero]
      repeat (first | go_big_quiet_step (exact hcm.out _ _) | quiet_step (exact hcm.out _ _))
      refine wpQuiet_nil ?_;rintro _ ⟨⟨dq,osq⟩,rfl⟩
      have HJ3:Bx (Below w.heap.size w (grow (redrawn W2 dq) osq)∧Bk (grow (redrawn W2 dq) osq) w.heap.size (zMj ⟨sa,sb,sc,sd,se,sf,sg,sh⟩ b2 (n0+k)).toArray 158∧Bk (grow (redrawn W2 dq) osq) (w.heap.size+1) Tryz.zeroCells158 158) :=
       ⟨HJ2.out.1.trans ((below_regrown W2 dq osq).mono HJ2.out.1.size),HJ2.out.2.1.later (below_regrown W2 dq osq),HJ2.out.2.2.later (below_regrown W2 dq osq)⟩
      clear HJ2 hcm hsl hK2 d0 d1 d2 d3 d4 d5 d6 d7;generalize grow (redrawn W2 dq) osq=W3 at *
      have hth:Bx (W3.there w.heap.size 0 (s2.list.map (Value.int .u32)).toArray.size):=⟨fun i hi=>by
       have hi:i<8:=hi;rw [Nat.zero_add];refine ⟨?_,HJ3.out.2.1.frozen i⟩;rw [HJ3.out.2.1.cell i (v:=(zMj ⟨sa,sb,sc,sd,se,sf,sg,sh⟩ b2 (n0+k))[i]'(by rw [zMl _ hfl.out];omega)) (by rw [List.getElem?_toArray,List.getElem?_eq_getElem])]
       rfl⟩
      have h8:(Tryz.prog.info? 155).map (·.size)=some (s2.list.map (Value.int .u32)).toArray.size:=by kernel_rfl
      have hone:=Bx.mk (zl .u32 s2.list);replace h8:=Bx.mk h8;unfold zBP;refine wpList_store_mid rfl _ _ _ rfl w.heap.size 0 (s2.list.map (Value.int .u32)).toArray rfl rfl hth.out h8.out hone.out ?_;simp only [Act.put];generalize hW:World.setCells W3 _ _ _=W4;go_wp2_with fail
      have HI2:Bx (StmI w kc m t (j+k) s2 b2 W4):=by
       have hl:=HJ3.out.2.1.cells (s2.list.map (Value.int .u32)) 0 _ _ (by show 0+8≤_;rw [zMl _ hfl.out];omega)
       rw [←hW];have hs:=zL2 w.heap.size (s2.list.map (Value.int .u32)) 0 W3;refine ⟨⟨HJ3.out.1.trans ?_,hs1.out,?_,?_⟩⟩
       · exact zBZ _ _ _ _ _ (Nat.le_refl _)
       · rw [←Nat.add_assoc,hn0.out];exact hl
       · have hkr:=HJ3.out.2.2;unfold Bk at *;rw [hs _ (by omega)];exact hkr
      refine ⟨⟨j+k,by omega,rfl,⟨_,_,HI2.out⟩⟩,?_⟩
      show (strOfNums (t.drop (j+k))).size<(strOfNums (t.drop j)).size
      rw [strOfNums_size,strOfNums_size,List.length_drop,List.length_drop];omega
    · have t1:((at_:Int)+(k:Int) == 64)=false:=by simp;omega
      have hs1:=Bx.mk (hst.out.2 hfull);go_wp2_with fail
      have HI2:Bx (StmI w kc m t (j+k) s1 b2 (W1.setCell ⟨w.heap.size,72,none⟩ (.int .u64 ((n0:Int)+(k:Int))))):=by
       rw [show (n0:Int)+(k:Int)=((n0+k:Nat):Int) by omega]
       refine ⟨⟨HJ.out.1.setCell (by show w.heap.size≤w.heap.size;omega) _,hs1.out,?_,HJ.out.2.2.other _ _ (by show w.heap.size+1 ≠ w.heap.size;omega)⟩⟩
       have:=HJ.out.2.1.set 72 (.int .u64 ((n0+k:Nat):Int));rw [List.setIfInBounds_toArray,zMm s1 hfl.out] at this;rw [←Nat.add_assoc,hn0.out];exact this
      refine ⟨⟨j+k,by omega,rfl,⟨_,_,HI2.out⟩⟩,?_⟩
      show (strOfNums (t.drop (j+k))).size<(strOfNums (t.drop j)).size
      rw [strOfNums_size,strOfNums_size,List.length_drop,List.length_drop];omega
  · have t0:(!(strOfNums ([]:List Int)).toList.isEmpty)=false:=by rw [ByteArray.toList_eq];rfl
    obtain rfl:j=t.length:=by omega
    rw [List.drop_length] at *;have hso:=HI.out.so;rw [List.take_length] at hso;have hl1:=hso.len;have hso:=Bx.mk hso;have hsz:(zMj s1 b1 (m.length+t.length)).toArray.size=73:=by rw [List.size_toArray,zMl _ hl1]
    have hkb:=Bx.mk HI.out.kb;have hkr:=Bx.mk HI.out.kr;have H1:=Bx.mk (show ∀ cs:Array Value,cs.size=73→(Tryz.prog.info? 158).map (·.size)=some cs.size from fun cs h=>by rw [h];kernel_rfl)
    have hs2 : Tryz.zeroCells158.size=(zMj s1 b1 (m.length+t.length)).toArray.size:=by rw [hsz];kernel_rfl
    have hone:(zMj s1 b1 (m.length+t.length)).toArray.all (·.oneCell')=true:=by
     rw [Array.all_eq_true_iff_forall_mem];intro v hv;rw [List.mem_toArray] at hv;unfold zMj at hv;rw [List.mem_append,List.mem_append,List.mem_map,List.mem_map,List.mem_singleton] at hv;rcases hv with (⟨x,-,rfl⟩ | ⟨x,-,rfl⟩) | rfl <;> rfl
    have hsz:=Bx.mk hsz;have hs2:=Bx.mk hs2;have hone:=Bx.mk hone;have hll:Bx ((m++t).length=m.length+t.length):=⟨List.length_append⟩;go_upto_region 8 with fail
    go_wp2_with (first
     | refine zAI rfl _ _ rfl w.heap.size rfl _ _ hkb.out _ Tryz.underlying158 rfl (H1.out _ hsz.out) ?_
     | refine zAJ rfl _ _ _ rfl (w.heap.size+1) rfl _ _ rfl _ hkr.out (H1.out _ hsz.out) hs2.out hone.out ?_)
    refine bodyPost_ret (v:=zMq s1 b1 (m.length+t.length)) (results_cell_row rfl _ _ (w.heap.size+1) 158 _ (0,0) _ rfl (setRow_heap _ _ _ _ _ (0,0) hkr.out) Tryz.underlying158 rfl (H1.out _ hsz.out)) rfl ⟨s1,b1,by rw [hll.out],hso.out,below_setRow HI.out.bel (by omega) _⟩
end
end Go.Proofs.YtgnfgblkpnfcnaaGreatDoor
