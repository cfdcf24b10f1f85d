/- Byt, Inp, EPal, Dgp, Lry, Lca, Lde: joined by program, for one claim. -/
import Derived.Test.YtgnfgblkpnfcnaaGreatDoorM41
set_option maxHeartbeats 4000000
set_option maxRecDepth 100000
set_option linter.unusedVariables false
set_option linter.unusedSimpArgs false
section
namespace Go.Proofs.YtgnfgblkpnfcnaaGreatDoor
open Go.RowKit Go.Sort
theorem zMn {ys:List Int} (h:Byt ys):Go.Lib.strCells (strOfNums ys)=ys.map (Value.int .u8):=by
 have h3:=zBl h;unfold Go.Lib.strCells
 conv=>rhs;rw [←h3]
 unfold bs;rw [List.map_map];rfl
theorem zOM {P:Program} {w:World} {ops:Array Oper} {rest:List Oper} {o:Oper} {a:Act} {Q:Exit→Act→World→Prop} (hgd:o.guard=none) (sl x:Operand) (t u:TypeId)
 (ho:o.op = .call { callee:=.builtin .append,args:=#[sl,x],argTypes:=#[t,u] })
 (B:Nat) (e:TypeId) (ht:P.underlying t=some (.slice e)) (hu:P.underlying u=some .string) (hi:(P.info? e).map (fun i=>(i.zero,i.size,i.bytes))=some (some (.int .u8 0),1,1))
 (v:Value) (xs ys:List Int) (hs:a.eval sl=v) (hown:Own w B e .u8 v xs) (hy:Byt ys) (hx:a.eval x = .string (strOfNums ys)) (hlen:xs.length+ys.length≤1000000000) (hbase:B≤w.heap.size)
 (h : ∀ v' w',Own w' B e .u8 v' (xs++ys)→w.grownBy w' v.ownBlock→wpList P ops Q rest (a.put o.dst v') w'):wpList P ops Q (o::rest) a w:=by
 obtain ⟨i0,hi0,hz0,hz1,hz2⟩:=info_parts hi;have hsz:=strOfNums_size ys;refine Go.Lib.wpList_append_own_string w hgd sl x t u ho B e i0 ht hu hi0 hz0 hz1 hz2 v xs.length (xs.map (Value.int .u8)) hs hown (strOfNums ys) hx (by rw [hsz];unfold maxLen;omega) (by rw [hsz];omega) hbase fun v' w' h1 h2 _=>h v' w' ?_ h2
 unfold Own;rw [hsz,zMn hy] at h1;rw [List.length_append,List.map_append];exact h1
def wb (p:List Int):List Int:=vi (2 * p.length)++p
theorem zB2 {p:List Int} (h:Byt p):Byt (wb p):=(zB1 _).append h
theorem zNv (z:Nat) (hz:z≤2000000000000):(vi z).length≤7:=zNw 6 z (by have:128 ^ (6+1)=562949953421312:=(by decide);omega)
theorem zN4 (p:List Int) (h:p.length≤1000000):(wb p).length≤p.length+7:=by
 unfold wb;rw [List.length_append];have:=zNv (2 * p.length) (by omega)
 omega
theorem PadI.str {w:World} {v v':Value} {xs ys:List Int} {w1 w4:World} (h:PadI w v xs w1) (ho:Own w4 w.heap.size 5 .u8 v' (xs++ys)) (hg:w1.grownBy w4 v.ownBlock):PadI w v' (xs++ys) w4:=by
 have hne : ∀ k,k<w.heap.size→v.ownBlock ≠ some k:=fun k hk e=>by have:=(h.own.lt k e).1;omega
 have hs:=h.bel.size;exact ⟨ho,h.bel.trans ⟨hg.os,hg.tape,hg.output,hg.size,fun k hk=>hg.block k (by omega) (fun e=>hne k hk e.symm)⟩⟩
theorem zB3 (p:List Int) (hb:Byt p) (hl:p.length≤1000000) (w:World):Calls Tryz.prog 136 #[.string (strOfNums p)] w (zAP w (wb p)):=by
 have hI:=Bx.mk (zFk p.length (by omega) w)
 have hsz:(strOfNums p).size=p.length:=strOfNums_size p;have hb:=Bx.mk hb;have hln:Bx ((vi (2 * p.length)).length+p.length≤1000000000):=⟨by have:=zNv (2 * p.length) (by omega);omega⟩
 unfold wb;generalize vi (2 * p.length)=xs at *;go_enter Tryz.func136,Tryz.ntmps136;go_wp2_with fail;refine hI.out.mono ?_;rintro _ w1 ⟨v1,rfl,hp1⟩;replace hp1:=Bx.mk hp1;go_wp2_with (refine zOM rfl _ _ _ _ rfl w.heap.size 5 Tryz.underlying84 Tryz.underlying9 (by kernel_rfl) _ xs p rfl hp1.out.own hb.out rfl hln.out hp1.out.bel.size ?_)
 intro v2 w2 ho hg;have hp2:=Bx.mk (hp1.out.str ho hg);clear ho hg hp1;go_wp2_with fail;go_ret;exact ⟨_,rfl,hp2.out⟩
theorem zK6 (p:List Int) (hb:Byt p) (hl:p.length≤1000000) (w:World):Calls Tryz.prog 143 #[.string (strOfNums p)] w (zAP w (wb p)):=by
 have hI:=Bx.mk (zK7 p.length (by omega) w)
 have hsz:(strOfNums p).size=p.length:=strOfNums_size p;have hb:=Bx.mk hb;have hln:Bx ((vi (2 * p.length)).length+p.length≤1000000000):=⟨by have:=zNv (2 * p.length) (by omega);omega⟩
 unfold wb;generalize vi (2 * p.length)=xs at *;go_enter Tryz.func143,Tryz.ntmps143;go_wp2_with fail;refine hI.out.mono ?_;rintro _ w1 ⟨v1,rfl,hp1⟩;replace hp1:=Bx.mk hp1;go_wp2_with (refine zOM rfl _ _ _ _ rfl w.heap.size 5 Tryz.underlying84 Tryz.underlying9 (by kernel_rfl) _ xs p rfl hp1.out.own hb.out rfl hln.out hp1.out.bel.size ?_)
 intro v2 w2 ho hg;have hp2:=Bx.mk (hp1.out.str ho hg);clear ho hg hp1;go_wp2_with fail;go_ret;exact ⟨_,rfl,hp2.out⟩
def zDf (tag:Int) (ps:List (List Int)):List Int:=tag % 256::(ps.map wb).flatten
theorem zDh (tag:Int) (ps:List (List Int)) (p:List Int):zDf tag (ps++[p])=zDf tag ps++wb p:=by unfold zDf;simp
theorem zBx (tag:Int) {ps:List (List Int)} (h : ∀ p∈ps,Byt p):Byt (zDf tag ps):=by
 intro x hx;unfold zDf at hx;rcases List.mem_cons.1 hx with rfl | hx
 · omega
 · rw [List.mem_flatten] at hx;obtain ⟨l,hl,hx⟩:=hx;obtain ⟨p,hp,rfl⟩:=List.mem_map.1 hl;exact zB2 (h p hp) x hx
theorem zDg (tag:Int) (k:Nat) : ∀ {ps:List (List Int)},(∀ p∈ps,p.length≤1000)→ps.length≤k→(zDf tag ps).length≤1+k * 1007:=by
 have key : ∀ {ps:List (List Int)},(∀ p∈ps,p.length≤1000)→((ps.map wb).flatten).length≤ps.length * 1007:=by
  intro ps
  induction ps with
  | nil=>intro _;simp
  | cons p ps ih =>
    intro h;rw [List.map_cons,List.flatten_cons,List.length_append,List.length_cons];have h1:=ih fun q hq=>h q (List.mem_cons_of_mem _ hq);have h2:=h p List.mem_cons_self;have h3:=zN4 p (by omega)
    omega
 intro ps h hk;unfold zDf;rw [List.length_cons];have h1:=key h;have h2:ps.length * 1007≤k * 1007:=Nat.mul_le_mul_right _ hk;omega
def dig (kc:List Int) (tag:Int) (ps:List (List Int)):List Int:=(sha kc (zDf tag ps)).take 16
end Go.Proofs.YtgnfgblkpnfcnaaGreatDoor
namespace Go.Proofs.YtgnfgblkpnfcnaaGreatDoor
open Go.RowKit Go.Sort
theorem PadI.start {w:World} {v:Value} {xs:List Int} {w1:World} (ho:Own w1 w.heap.size 5 .u8 v xs) (hb:Below w.heap.size w w1):PadI w v xs w1:=⟨ho,hb⟩
structure Parts (ps:List (List Int)):Prop where
 byt : ∀ p∈ps,Byt p
 len : ∀ p∈ps,p.length≤1000
 few:ps.length≤20
theorem zFh (tag:Int) (a:Option Addr) (cap:Nat) (ps:List (List Int)) (hp:Parts ps) (w:World) (hs:Slv w a (zy ps)) :
 Calls Tryz.prog 108 #[tag,.slice a ps.length cap] w (zAP w (zDf tag ps)):=by
 have hs:=Bx.mk hs;have hB:=Bx.mk fun (p:List Int) (hq:p∈ps) (W:World)=>zK6 p (hp.byt p hq) (by have:=hp.len p hq;omega) W
 have hfew:=hp.few;have hlb:=Bx.mk fun (p:List Int) (hq:p∈ps)=>zN4 p (by have:=hp.len p hq;omega)
 have hlp:=Bx.mk hp.len;clear hp;generalize hpn:ps.length=pn at *;replace hpn:=Bx.mk hpn;have hd0:Bx (zDf tag (ps.take 0)=[tag % 256]):=⟨by rw [List.take_zero];rfl⟩
 go_enter Tryz.func108,Tryz.ntmps108;go_upto_region 2 with fail;generalize hW:World.alloc w _=w1
 have HI:Bx (PadI w (.slice (some ⟨w.heap.size,0,none⟩) 1 1) (zDf tag (ps.take 0)) w1):=by
  rw [←hW,hd0.out];exact ⟨⟨Own.lit _ _ _ _ _ _ _ (Nat.le_refl _) (by decide) rfl rfl,(Below.refl _ _).alloc (Nat.le_refl _) _⟩⟩
 clear hW hd0;go_wp2_with fail
 go_loopw [5,6] (fun v5 v6 wr => ∃ k:Nat,k≤pn∧v6 = .int .i64 k∧Bx (PadI w v5 (zDf tag (ps.take k)) wr)) (fun _ v6 _=>pn - (intOf v6).toNat)
 case atStart=>exact ⟨0,Nat.zero_le _,rfl,HI⟩
 case round =>
  clear HI;obtain ⟨k,hk,rfl,HI⟩:=hrel;by_cases hlt:k<pn
  · have t0:decide ((k:Int)<(pn:Int))=true:=by simp;omega
    obtain ⟨p,hp⟩ : ∃ p,ps[k]? = some p:=⟨_,List.getElem?_eq_getElem (by have:=hpn.out;omega)⟩
    have hpm:=List.mem_of_getElem? hp;obtain ⟨b,o,rfl,hc⟩:=(hs.out.below HI.out.bel) k _ (zMy hp);have hB1:=Bx.mk (hB.out p hpm);have hsn:Bx (zDf tag (ps.take (k+1))=zDf tag (ps.take k)++wb p):=⟨by rw [←zDh];congr 1;obtain ⟨h1,rfl⟩:=List.getElem?_eq_some_iff.1 hp;exact List.take_succ_eq_append_getElem h1⟩
    have hln:Bx ((zDf tag (ps.take k)).length+(wb p).length≤1000000000):=⟨by
     have h1:=zDg tag 20 (ps:=ps.take k) (fun q hq=>hlp.out q (List.mem_of_mem_take hq)) (by rw [List.length_take];omega)
     have h2:=hlb.out p hpm;have h3:=hlp.out p hpm;omega⟩
    have q0:(0:Int)≤(k:Int):=by omega
    have q1:(k:Int)<(pn:Int):=by omega
    clear hp hpm;generalize zDf tag (ps.take k)=xs at *;generalize wb p=ys at *;go_wp2_with fail;refine (hB1.out _).mono ?_;rintro _ w3 ⟨v3,rfl,hp3⟩;obtain ⟨a3,c3,rfl,hs3⟩:=hp3.own.form;replace hs3:=Bx.mk hs3;have HI3:Bx (PadI w u5 xs w3):=⟨HI.out.own.below hp3.bel,HI.out.bel.trans (hp3.bel.mono HI.out.bel.size)⟩;clear hp3 HI;go_wp2_with (refine zAG rfl _ _ _ rfl 5 .u8 (.int .u8 0) 1 (by omega) Tryz.underlying84 (by kernel_rfl) rfl w.heap.size _ xs rfl HI3.out.own ys _ _ c3 rfl rfl hs3.out hln.out HI3.out.bel.size ?_)
    intro v4 w4 ho hg _;have HI4:=Bx.mk (HI3.out.str ho hg);rw [←hsn.out] at HI4;clear ho hg HI3 hsn;go_wp2_with fail
    go_roundw
    case rel=>exact ⟨k+1,by omega,by go_num,HI4⟩
    case measure=>simp [intOf];omega
  · have t0:decide ((k:Int)<(pn:Int))=false:=by simp;omega
    obtain rfl:k=pn:=by omega
    rw [List.take_of_length_le (by rw [hpn.out];omega)] at HI
    go_wp2_with fail;go_ret;exact ⟨_,rfl,HI.out⟩
end Go.Proofs.YtgnfgblkpnfcnaaGreatDoor
namespace Go.Proofs.YtgnfgblkpnfcnaaGreatDoor.PalE.Pal
def add (p:List Int) (c:Int):List Int:=if c∈p then p else p++[c]
def diff (l:List Int):List Int:=l.foldl add []
theorem zDW (l:List Int) (c:Int):diff (l++[c])=add (diff l) c:=by simp [diff]
theorem diff_take (l:List Int) (k:Nat) (x:Int) (h:l[k]? = some x):diff (l.take (k+1))=add (diff (l.take k)) x:=by
 rw [List.take_add_one,h];exact zDW _ _
theorem zAt (p:List Int) (c:Int):(add p c).length≤p.length+1:=by
 unfold add;split <;> simp
theorem diff_length_take (l:List Int) (k:Nat):(diff (l.take k)).length≤k:=by
 induction k with
 | zero=>simp [diff]
 | succ k ih =>
   cases h:l[k]? with
   | none =>
     rw [List.take_add_one,h];simp;omega
   | some x =>
     rw [diff_take l k x h];have:=zAt (diff (l.take k)) x;omega
theorem diff_length (l:List Int):(diff l).length≤l.length:=by
 have:=diff_length_take l l.length;simpa using this
def find (xs:List Int) (c:Int):Int:=if c∈xs then ((xs.idxOf c:Nat):Int) else -1
theorem find_pos {xs:List Int} {c:Int} (h:c∈xs):find xs c=((xs.idxOf c:Nat):Int):=if_pos h
theorem find_neg {xs:List Int} {c:Int} (h:c ∉ xs):find xs c = -1:=if_neg h
def width (m:Nat):Nat:=if m≤1 then 0 else if m≤2 then 1 else if m≤4 then 2 else if m≤16 then 4 else 8
def byt (w:Nat) (f:Nat→Nat):Nat→Nat→Nat
 | 0,_=>0
 | k+1,j=>byt w f k j+if k * w / 8=j then f k * 2 ^ (k * w % 8) else 0
def packs (w:Nat) (f:Nat→Nat) (n:Nat):List Int:=(List.range ((n * w+7) / 8)).map fun j=>(byt w f n j:Int)
def Wd (w:Nat):Prop:=w=1∨w=2∨w=4∨w=8
theorem byt_lt (w:Nat) (f:Nat→Nat) (hw:Wd w) : ∀ k,(∀ i,i<k→f i<2 ^ w) → ∀ j,
 (k * w≤8 * j→byt w f k j=0)∧(8 * j<k * w→k * w≤8 * j+8→byt w f k j<2 ^ (k * w - 8 * j))∧byt w f k j<256:=by
 intro k
 induction k with
 | zero=>intro _ j;simp [byt]
 | succ k ih =>
   intro hf j;obtain ⟨h1,h2,h3⟩:=ih (fun i hi=>hf i (by omega)) j
   have hk:=hf k (by omega)
   unfold byt;rcases hw with rfl | rfl | rfl | rfl
   · by_cases hj:k * 1 / 8=j
     · rw [if_pos hj];have:k * 1 % 8=0∨k * 1 % 8=1∨k * 1 % 8=2∨k * 1 % 8=3∨k * 1 % 8=4∨k * 1 % 8=5∨k * 1 % 8=6∨k * 1 % 8=7:=by omega
       by_cases h0:k * 1≤8 * j
       · have hb:=h1 h0;have hs:k * 1 % 8=0:=by omega
         have he:(k+1) * 1 - 8 * j=1:=by omega
         rw [hb,hs,he];simp at hk ⊢; omega
       · have hb:=h2 (by omega) (by omega)
         have he:(k+1) * 1 - 8 * j=k * 1 % 8+1:=by omega
         have he':k * 1 - 8 * j=k * 1 % 8:=by omega
         rw [he] ; rw [he'] at hb;rcases this with hs | hs | hs | hs | hs | hs | hs | hs <;> rw [hs] at hb ⊢ <;> simp at hk hb ⊢ <;> omega
     · rw [if_neg hj];refine ⟨fun h=>by simpa using h1 (by omega),fun ha hb=>?_,by simpa using h3⟩
       have:=h2 (by omega) (by omega)
       omega
   · by_cases hj:k * 2 / 8=j
     · rw [if_pos hj];have:k * 2 % 8=0∨k * 2 % 8=2∨k * 2 % 8=4∨k * 2 % 8=6:=by omega
       by_cases h0:k * 2≤8 * j
       · have hb:=h1 h0;have hs:k * 2 % 8=0:=by omega
         have he:(k+1) * 2 - 8 * j=2:=by omega
         rw [hb,hs,he];simp at hk ⊢; omega
       · have hb:=h2 (by omega) (by omega)
         have he:(k+1) * 2 - 8 * j=k * 2 % 8+2:=by omega
         have he':k * 2 - 8 * j=k * 2 % 8:=by omega
         rw [he] ; rw [he'] at hb;rcases this with hs | hs | hs | hs <;> rw [hs] at hb ⊢ <;> simp at hk hb ⊢ <;> omega
     · rw [if_neg hj];refine ⟨fun h=>by simpa using h1 (by omega),fun ha hb=>?_,by simpa using h3⟩
       omega
   · by_cases hj:k * 4 / 8=j
     · rw [if_pos hj];have:k * 4 % 8=0∨k * 4 % 8=4:=by omega
       by_cases h0:k * 4≤8 * j
       · have hb:=h1 h0;have hs:k * 4 % 8=0:=by omega
         have he:(k+1) * 4 - 8 * j=4:=by omega
         rw [hb,hs,he];simp at hk ⊢; omega
       · have hb:=h2 (by omega) (by omega)
         have he:(k+1) * 4 - 8 * j=k * 4 % 8+4:=by omega
         have he':k * 4 - 8 * j=k * 4 % 8:=by omega
         rw [he] ; rw [he'] at hb;rcases this with hs | hs <;> rw [hs] at hb ⊢ <;> simp at hk hb ⊢ <;> omega
     · rw [if_neg hj];refine ⟨fun h=>by simpa using h1 (by omega),fun ha hb=>?_,by simpa using h3⟩
       omega
   · by_cases hj:k * 8 / 8=j
     · rw [if_pos hj];have hs:k * 8 % 8=0:=by omega
       have hb:=h1 (by omega)
       have he:(k+1) * 8 - 8 * j=8:=by omega
       rw [hb,hs,he];simp at hk ⊢; omega
     · rw [if_neg hj];refine ⟨fun h=>by simpa using h1 (by omega),fun ha hb=>?_,by simpa using h3⟩
       omega
def cell (c:Int):Bool:=decide (0≤c) && decide (c≤255)
def bytes (w:Nat) (f:Nat→Nat) (k m:Nat):List Int:=(List.range m).map fun j=>(byt w f k j:Int)
theorem packs_eq (w:Nat) (f:Nat→Nat) (n:Nat):packs w f n=bytes w f n ((n * w+7) / 8):=rfl
theorem bytes_length (w:Nat) (f:Nat→Nat) (k m:Nat):(bytes w f k m).length=m:=by simp [bytes]
theorem bytes_more (w:Nat) (f:Nat→Nat) (k m:Nat) (h:byt w f k m=0):bytes w f k m++[0]=bytes w f k (m+1):=by
 simp [bytes,List.range_succ,h]
theorem bytes_at (pre:List Int) (w:Nat) (f:Nat→Nat) (k m j:Nat) (hj:j<m):(pre++bytes w f k m)[pre.length+j]? = some (byt w f k j:Int):=by
 rw [List.getElem?_append_right (by omega)]
 simp [bytes,hj]
theorem bytes_set (pre:List Int) (w:Nat) (f:Nat→Nat) (k m j:Nat) (hj:j=k * w / 8):(pre++bytes w f k m).set (pre.length+j) ((byt w f k j+f k * 2 ^ (k * w % 8):Nat):Int)=pre++bytes w f (k+1) m:=by
 rw [List.set_append_right _ _ (by omega)]
 congr 1
 apply List.ext_getElem?;intro i;rw [show pre.length+j - pre.length=j by omega]
 by_cases hi:i<m
 · rw [List.getElem?_set];by_cases hij:j=i
   · subst hij;have hi':k * w / 8<m:=by omega
     simp [bytes,byt,hi',hj]
   · rw [if_neg hij];have : ¬k * w / 8=i:=by omega
     simp [bytes,byt,hi,this]
 · rw [List.getElem?_eq_none (by simp [bytes];omega),List.getElem?_eq_none (by simp [bytes];omega)]
def bad (cells:List Int):Bool := !cells.all cell || decide (64<cells.length)
def packMain (cells:List Int):List Int:=(cells.length:Int)::((diff cells).length:Int)::(diff cells++packs (width (diff cells).length) (fun i=>(diff cells).idxOf (cells.getD i 0)) cells.length)
def packB (cells:List Int):List Int:=if bad cells then [] else if cells.length=0 then [0] else packMain cells
def packE (cells:List Int):Int:=if bad cells then 1 else 0
theorem packB_bad {cells:List Int} (h:bad cells=true):packB cells=[]:=by simp [packB,h]
theorem packE_bad {cells:List Int} (h:bad cells=true):packE cells=1:=by simp [packE,h]
theorem packE_good {cells:List Int} (h:bad cells=false):packE cells=0:=by simp [packE,h]
theorem packB_nil {cells:List Int} (h:bad cells=false) (h0:cells.length=0):packB cells=[0]:=by simp [packB,h,h0]
theorem packB_main {cells:List Int} (h:bad cells=false) (h0 : ¬cells.length=0):packB cells=packMain cells:=by simp [packB,h,h0]
theorem zHu (l:List Int) : ∀ (p:List Int) (c:Int),c∈l.foldl add p ↔ c∈p∨c∈l:=by
 induction l with
 | nil=>simp
 | cons x l ih =>
   intro p c;rw [List.foldl_cons,ih];unfold add;split <;> simp_all <;> grind
theorem mem_diff (l:List Int) (c:Int):c∈diff l ↔ c∈l:=by simp [diff,zHu]
theorem width_wd {m:Nat} (h:1<m):Wd (width m):=by
 unfold Wd width
 repeat (split <;> try omega)
theorem width_fits {m:Nat} (h:m≤64):m≤2 ^ width m:=by
 unfold width
 repeat (split <;> try omega)
def dg (t:List Int) (w i:Nat):Option (Nat × Nat) :=
 if w=0 then some (0,0) else (t[i * w / 8]?).map fun b=>(b.toNat / 2 ^ (i * w % 8) % 2 ^ w,b.toNat / 2 ^ (i * w % 8) / 2 ^ w)
def nxt (seen x:Nat):Nat:=if x=seen then seen+1 else seen
def encB (cells:List Int):List Int:=if cells.length ≠ 64 then [] else packB cells
def encE (cells:List Int):Int:=if cells.length ≠ 64 then 1 else packE cells
def brick (l:List Int):Bool:=decide (l.length=64) && l.all cell
def bit (t:List Int) (i:Nat):Nat:=(t.getD (i / 8) 0).toNat / 2 ^ (i % 8) % 2
def st (old t cells:List Int):Nat→Option (Nat × List Int)
 | 0=>some (0,[])
 | i + 1 =>
   match st old t cells i with
   | none=>none
   | some (k, out) =>
     if bit t i=0 then some (k,out++[old.getD i 0])
     else match cells[k]? with
      | none=>none
      | some c=>if c=old.getD i 0 then none else some (k+1,out++[c])
end Go.Proofs.YtgnfgblkpnfcnaaGreatDoor.PalE.Pal
namespace Go.Proofs.YtgnfgblkpnfcnaaGreatDoor
open Go.RowKit Go.Sort
open Oct
theorem zDa (kc:List Int) (tag:Int) (ps:List (List Int)):(dig kc tag ps).length=16:=by
 unfold dig;rw [List.length_take,show (sha kc (zDf tag ps)).length=32 from zI6 _];rfl
theorem zBv (kc:List Int) (tag:Int) (ps:List (List Int)):Byt (dig kc tag ps):=(zBz _).take 16
theorem zJa {p:List Int} (h:Byt p) (hl:p.length≤1000):Parts [p] :=
 ⟨fun q hq=>by rw [List.mem_singleton.1 hq];exact h,fun q hq=>by rw [List.mem_singleton.1 hq];exact hl,by simp⟩
theorem zMK (w:World) (p:List Int) (t:TypeId):Slv (w.alloc (.cells #[.string (strOfNums p)] t)) (some ⟨w.heap.size,0,none⟩) (zy [p]):=by
 intro i v hv
 match i with
 | 0 =>
   simp [zy] at hv;subst hv;exact ⟨_,0,rfl,zH _ _ _⟩
 | i+1=>simp [zy] at hv
theorem Ownv.lit1 (w:World) (B:Nat) (e:TypeId) (u:Value) (hb:B≤w.heap.size):Ownv (w.alloc (.cells #[u] e)) B e (.slice (some ⟨w.heap.size,0,none⟩) 1 1) [u]:=by
 have:=World.ownsRow_lit (e:=e) (size:=1) w #[u] 1 hb (by decide) (by simp)
 simpa [Ownv] using this
theorem zDV (l:List Int):(PalE.Pal.diff l).length≤l.length:=PalE.Pal.diff_length l
theorem zDt {l:List Int} (hl:l.length=64):(PalE.Pal.encB l).length≤200:=by
 unfold PalE.Pal.encB;rw [if_neg (by omega)]
 unfold PalE.Pal.packB;split
 · simp
 · split
   · simp
   · unfold PalE.Pal.packMain PalE.Pal.packs;have h:=zDV l;have hw:PalE.Pal.width (PalE.Pal.diff l).length≤8:=by unfold PalE.Pal.width;repeat (split <;> try omega)
     have h2:l.length * PalE.Pal.width (PalE.Pal.diff l).length≤64 * 8:=by rw [hl];exact Nat.mul_le_mul_left _ hw
     simp only [List.length_cons,List.length_append,List.length_map,List.length_range];omega
theorem zBy {l:List Int} (hl:l.length=64) (hb:Byt l):Byt (PalE.Pal.encB l):=by
 unfold PalE.Pal.encB;rw [if_neg (by omega)]
 unfold PalE.Pal.packB;split
 · intro x hx;simp at hx
 · split
   · intro x hx;simp at hx;omega
   · rename_i hbad hne;have hd:=zDV l;intro x hx;unfold PalE.Pal.packMain at hx;simp only [List.mem_cons,List.mem_append] at hx;rcases hx with rfl | rfl | hx | hx
     · omega
     · omega
     · exact hb x ((PalE.Pal.mem_diff l x).1 hx)
     · unfold PalE.Pal.packs at hx;obtain ⟨j,hj,rfl⟩:=List.mem_map.1 hx;have hj:=List.mem_range.1 hj;by_cases h1:1<(PalE.Pal.diff l).length
       · have hwd:=PalE.Pal.width_wd h1
         have hlt:=PalE.Pal.byt_lt _ (fun i=>(PalE.Pal.diff l).idxOf (l.getD i 0)) hwd l.length (fun i hi=>by
          have hm:l.getD i 0∈PalE.Pal.diff l:=(PalE.Pal.mem_diff l _).2 (by rw [List.getD_eq_getElem?_getD,List.getElem?_eq_getElem hi];exact List.getElem_mem hi)
          have:=List.idxOf_lt_length_of_mem hm;have:=PalE.Pal.width_fits (m:=(PalE.Pal.diff l).length) (by omega)
          omega) j
         omega
       · have:PalE.Pal.width (PalE.Pal.diff l).length=0:=by unfold PalE.Pal.width;rw [if_pos (by omega)]
         rw [this] at hj;omega
def zDY (kc:List Int):Tr→List Int
 | .uni c=>dig kc 1 [vi (2 * c.toNat)]
 | .brick l=>dig kc 2 [PalE.Pal.encB l]
 | .node d ch=>dig kc 3 (vi (2 * d)::List.ofFn fun i=>zDY kc (ch i))
theorem zDZ (kc:List Int) (t:Tr):(zDY kc t).length=16:=by cases t <;> (unfold zDY;exact zDa _ _ _)
theorem zBw (kc:List Int) (t:Tr):Byt (zDY kc t):=by cases t <;> (unfold zDY;exact zBv _ _ _)
def zF5 (kc:List Int) (ch:Fin 8→Tr):List (List Int):=List.ofFn fun i=>zDY kc (ch i)
def zm (kc:List Int) (d:Nat) (ch:Fin 8→Tr) (k:Nat):List (List Int):=vi (2 * d)::(zF5 kc ch).take k
theorem zF6 (kc:List Int) (ch:Fin 8→Tr):(zF5 kc ch).length=8:=List.length_ofFn
theorem zJZ (kc:List Int) (d:Nat) (ch:Fin 8→Tr) {k:Nat} (hk:k<8):zm kc d ch (k+1)=zm kc d ch k++[zDY kc (ch ⟨k,hk⟩)]:=by
 unfold zm;rw [List.take_succ_eq_append_getElem (by rw [zF6];exact hk),List.cons_append]
 congr 3
 unfold zF5;rw [List.getElem_ofFn]
theorem zJX (kc:List Int) (d:Nat) (ch:Fin 8→Tr) {k:Nat} (hk:k≤8):(zm kc d ch k).length=k+1:=by
 unfold zm;rw [List.length_cons,List.length_take,zF6];omega
theorem zJW (kc:List Int) (d:Nat) (ch:Fin 8→Tr):dig kc 3 (zm kc d ch 8)=zDY kc (.node d ch):=by
 unfold zm;rw [List.take_of_length_le (by rw [zF6];exact Nat.le_refl _)]
 conv=>rhs;unfold zDY
 rfl
theorem zJY (kc:List Int) {d:Nat} (ch:Fin 8→Tr) (hd:d≤1000):Parts (zm kc d ch 8):=by
 refine ⟨fun q hq=>?_,fun q hq=>?_,by rw [zJX _ _ _ (Nat.le_refl _)];omega⟩
 all_goals
  unfold zm at hq;rcases List.mem_cons.1 hq with rfl | hq
 · exact zB1 _
 · obtain ⟨i,rfl⟩:=List.mem_ofFn.1 (List.mem_of_mem_take hq);exact zBw _ _
 · have:=zNv (2 * d) (by omega);omega
 · obtain ⟨i,rfl⟩:=List.mem_ofFn.1 (List.mem_of_mem_take hq);rw [zDZ];omega
end Go.Proofs.YtgnfgblkpnfcnaaGreatDoor
namespace Go.Proofs.YtgnfgblkpnfcnaaGreatDoor
open Go.RowKit Go.Sort Go.Maps
open Oct
def zNh (T:Nat→ByteArray) (k:Nat):List Value:=(List.range k).map fun j=>.string (T j)
theorem zNj (T:Nat→ByteArray) (k:Nat):(zNh T k).length=k:=by simp [zNh]
theorem zNk (T:Nat→ByteArray) (k:Nat):zNh T (k+1)=zNh T k++[.string (T k)]:=by simp [zNh,List.range_succ]
theorem zNi (T:Nat→ByteArray) {k j:Nat} (hj:j<k):(zNh T k)[j]? = some (.string (T j)):=by
 unfold zNh;rw [List.getElem?_map,List.getElem?_range hj];rfl
theorem zHN (ta:Option Addr) (nl tc N:Nat) (hN:N≤12) (T:Nat→ByteArray) (w:World)
 (HH:Bx (∀ W,Below w.heap.size w W → ∀ k:Nat,k<N→Calls Tryz.prog 42 #[.slice ta nl tc,.string (T k),.int .i64 ((N:Int)+2 - k)] W fun e w'=>e = .returned (.string (T (k+1)))∧Below W.heap.size W w')) :
 Calls Tryz.prog 11 #[.slice ta nl tc,.string (T 0),.int .i64 ((N:Int)+2)] w fun e w' => ∃ v,e = .returned v∧Ownv w' w.heap.size 9 v (zNh T (N+1))∧Below w.heap.size w w':=by
 go_enter Tryz.func11,Tryz.ntmps11;go_upto_region 2 with fail;generalize hW:World.alloc w _=W;have HI:=Bx.mk (show Below w.heap.size w W by rw [←hW];exact (Below.refl _ _).alloc (Nat.le_refl _) _)
 have HO:Bx (Ownv W w.heap.size 9 (.slice (some ⟨w.heap.size,0,none⟩) 1 1) (zNh T (0+1))):=⟨by rw [←hW];exact Ownv.lit1 w w.heap.size 9 (.string (T 0)) (Nat.le_refl _)⟩
 clear hW;go_wp2_with fail
 go_loopw [7,8] (fun v7 v8 wr => ∃ k:Nat,k≤N∧v8 = .int .i64 ((N:Int)+2 - k)∧Bx (Below w.heap.size w wr)∧Bx (Ownv wr w.heap.size 9 v7 (zNh T (k+1)))) (fun _ i _=>(intOf i).toNat)
 case atStart=>exact ⟨0,Nat.zero_le _,by simp,HI,HO⟩
 case round =>
  clear HI HO;obtain ⟨k,hk,rfl,HI,HO⟩:=hrel;obtain ⟨g,cap,rfl,hsl,hg⟩:=HO.out.form1 (by rw [zNj];omega)
  by_cases hlt:k<N
  · have t0:decide ((N:Int)+2 - (k:Int) > 2)=true:=by simp;omega
    have hc:wr.cell? ⟨g,k,none⟩=some (.string (T k)):=by
     obtain ⟨b,off,he,h⟩:=hsl k _ (zNi T (show k<k+1 by omega))
     injection he with he;injection he with h1 h2;subst h1 h2;rwa [Nat.zero_add] at h
    have hown:=HO.out;rw [zNj] at hown ⊢;have hs1:IntKind.i64.wrap (((k+1:Nat):Int) - 1)=(k:Int):=by rw [show ((k+1:Nat):Int) - 1=(k:Int) by omega];exact IntWalk.i64_in _ (by omega)
    have hs1':IntKind.i64.wrap ((k:Int)+1 - 1)=(k:Int):=by rw [show (k:Int)+1 - 1=(k:Int) by omega];exact IntWalk.i64_in _ (by omega)
    have b1:(0:Int)≤(k:Int)∧(k:Int)<(k:Int)+1:=by omega
    have hs2:IntKind.i64.wrap ((N:Int)+2 - (k:Int) - 1)=(N:Int)+2 - ((k+1:Nat):Int):=by rw [show (N:Int)+2 - (k:Int) - 1=(N:Int)+2 - ((k+1:Nat):Int) by omega];exact IntWalk.i64_in _ (by omega)
    have Hs2:=Bx.mk hs2;have HHk:=Bx.mk fun W hb=>HH.out W hb k hlt;have Htx:=Bx.mk (zNk T (k+1));have Hown:=Bx.mk hown;generalize T (k+1)=S1 at *;generalize T k=S0 at *;obtain ⟨dd,hdd⟩ : ∃ d:Int,d=(N:Int)+2 - (k:Int):=⟨_,rfl⟩;rw [←hdd] at t0 HHk ⊢;obtain ⟨d1,hd1⟩ : ∃ d:Int,d=(N:Int)+2 - ((k+1:Nat):Int):=⟨_,rfl⟩;have hs3:IntKind.i64.wrap (dd - 1)=d1:=by rw [hd1,hdd];exact hs2
    have Hd1:=Bx.mk hd1;clear hd1;have Hdd:=Bx.mk hdd;have Hlt:=Bx.mk hlt;clear hs2 hsl hown HO hdd hlt;go_wp2_with fail;refine (HHk.out _ HI.out).mono ?_;rintro _ w2 ⟨rfl,hb⟩;have hB2:=HI.out.trans (hb.mono HI.out.size);have hown:=Hown.out.below hb;have hle:=hB2.size;have hln:(zNh T (k+1)).length≤1000000000:=by rw [zNj];omega
    clear hb HHk hc HI Hown hs1 hs1' b1
    go_wp2_with (first
     | (at_builtin
        refine zAH rfl _ _ 37 rfl 9 (.string ByteArray.empty) 16 (by omega) Tryz.underlying37 (by kernel_rfl) rfl w.heap.size _ (zNh T (k+1)) rfl (hown.alloc _) (.string S1) rfl ⟨w2.heap.size,0,none⟩ 1 rfl (zH _ _ _) hln (ze hle _) ?_
        intro v1 w1 hown1 hg1 _))
    rw [←Htx.out] at hown1;have HO3:=Bx.mk hown1;have HI3:=Bx.mk ((hB2.alloc hle _).grown hg1 (ze hle _) (fun g hg=>(hown.lt g hg).1));have hlt:=Hlt.out;clear hown1 hg1 hown hB2 hle hln
    go_roundw
    case rel=>exact ⟨k+1,by omega,by rw [Hd1.out],HI3,HO3⟩
    case measure=>have e1:=Hd1.out;have e2:=Hdd.out;simp only [intOf];omega
  · obtain rfl:k=N:=by omega
    have t0:decide ((k:Int)+2 - (k:Int) > 2)=false:=by simp;omega
    clear hsl hg;go_wp2_with fail;go_ret;exact ⟨_,rfl,HO.out,HI.out⟩
end Go.Proofs.YtgnfgblkpnfcnaaGreatDoor
namespace Go.Proofs.YtgnfgblkpnfcnaaGreatDoor
open Go.RowKit Go.Sort Go.Maps
open Oct
noncomputable def zCH (s:Int→Bool) (N:Nat) (f:Pt→Int) (k:Int) (p:Pt):Int :=
 if 0≤k∧k≤(N:Int)∧inB p (zL (2 ^ (N+2)))=true then zHT s f k.toNat ⟨p.x / 2 ^ k.toNat,p.y / 2 ^ k.toNat,p.z / 2 ^ k.toNat⟩ else 0
theorem zGc {s:Int→Bool} {N:Nat} {f:Pt→Int} {ts:List Tr} (hm:trF N f∈ts) {k:Nat} (hk:k≤N):lvX s N f ts k=(idT (lvS s N f ts N) (trF (N - k) (zHT s f k)):Int):=by
 unfold lvX idn;rw [zV (zGa (j:=k) (k:=N) hk) (zGZ hm (Nat.le_refl k))]
theorem zGd (s:Int→Bool) (N:Nat) (hN:N≤12) (f:Pt→Int) (hf:FnC N f) (sb:Nat) (most:Int) (Far:Nat→Prop) (ts:List Tr) (hG:Good ts) (hm:trF N f∈ts) (hlen:(lvS s N f ts N).length≤1000000000000) (a:Option Addr) (cap:Nat) (k x y z:Int) (hx:W64 x) (hy:W64 y) (hz:W64 z) (w:World)
 (hS:StoreIs w Far sb most (lvS s N f ts N)) (hs:Sl w .i64 a ((List.range (N+1)).map (lvX s N f ts))) :
 Calls Tryz.prog 17 #[.pointer (some ⟨sb,0,none⟩),.slice a (N+1) cap,k,.agg #[x,y,z]] w fun e w'=>e = .returned (.int .i64 (zCH s N f k ⟨x,y,z⟩))∧Below w.heap.size w w':=by
 by_cases h0:k<0
 · have:zCH s N f k ⟨x,y,z⟩=0:=by unfold zCH;rw [if_neg (by omega)]
   rw [this];exact zGq sb a cap (N+1) k x y z w (by omega) h0
 · by_cases h1:((N+1:Nat):Int)≤k
   · have:zCH s N f k ⟨x,y,z⟩=0:=by unfold zCH;rw [if_neg (by omega)]
     rw [this];exact zGo sb a cap (N+1) k x y z w (by omega) (by omega) h1
   · cases hI:inB ⟨x,y,z⟩ (zL (2 ^ (N+2))) with
     | false =>
       have:zCH s N f k ⟨x,y,z⟩=0:=by unfold zCH;rw [if_neg (by rw [hI];simp)]
       rw [this];exact zGr sb a cap (N+1) k x y z w (by omega) (by omega) (by omega) hx hy hz hI
     | true =>
       obtain ⟨j,rfl⟩ : ∃ j:Nat,k=(j:Int):=⟨k.toNat,by omega⟩
       have hj:j≤N:=by omega
       have hc:zCH s N f (j:Int) ⟨x,y,z⟩=zHT s f j ⟨x / 2 ^ j,y / 2 ^ j,z / 2 ^ j⟩:=by unfold zCH;rw [if_pos ⟨by omega,by omega,hI⟩,Int.toNat_natCast]
       rw [hc];refine zGp sb a cap (N+1) j (lvX s N f ts j) _ x y z w (by omega) (by omega) _ (by rw [List.getElem?_map,List.getElem?_range (by omega)];rfl) hs hx hy hz hI ⟨fun W hb=>?_⟩
       rw [zGc hm hj,show ((N+1+1 - j:Nat):Int)=((N - j:Nat):Int)+2 by omega]
       exact get_fn W Far sb most (lvS s N f ts N) (N - j) (zHT s f j) (by omega) (zHV hf j hj) (zGX hN hf hG N (Nat.le_refl N)) hlen (zGZ hm hj) _ _ _ (hS.later hb)
theorem zHA (s:Int→Bool) (N:Nat) (hN:N≤12) (f:Pt→Int) (hf:FnC N f) (a:Option Addr) (cap:Nat) (k x y z:Int) (w:World) (hs:Slv w a (zNh (fun j=>strOfNums (Tr.enc (trF (N - j) (zHT s f j)))) (N+1))) :
 Calls Tryz.prog 18 #[.slice a (N+1) cap,k,.agg #[x,y,z]] w fun e w'=>e = .returned (.int .i64 (zCH s N f k ⟨x,y,z⟩))∧Below w.heap.size w w':=by
 have hcu:Bx (∀ W,Calls Tryz.prog 27 #[.agg #[(0:Int),(0:Int),(0:Int)],.int .i64 (((N+1:Nat):Int)+1)] W fun e w'=>e = .returned (.agg #[(0:Int),(0:Int),(0:Int),.int .i64 (2 ^ (N+1+1)),.int .i64 (2 ^ (N+1+1)),.int .i64 (2 ^ (N+1+1))])∧Below W.heap.size W w'):=⟨fun W=>by
  have:=zDB (N+2) (by omega) W
  rwa [show ((N+2:Nat):Int)=((N+1:Nat):Int)+1 by omega] at this⟩
 have hin : ∀ b,inB ⟨x,y,z⟩ (zL (2 ^ (N+2)))=b→Bx (∀ W,Calls Tryz.prog 26 #[.agg #[x,y,z],.agg #[(0:Int),(0:Int),(0:Int),.int .i64 (2 ^ (N+1+1)),.int .i64 (2 ^ (N+1+1)),.int .i64 (2 ^ (N+1+1))]] W fun e w'=>e = .returned (.bool b)∧Below W.heap.size W w'):=fun b hb=>⟨fun W=>by
  have:=zKk x y z 0 0 0 (2 ^ (N+2)) (2 ^ (N+2)) (2 ^ (N+2)) W;rwa [show inB ⟨x,y,z⟩ ⟨⟨0,0,0⟩,⟨2 ^ (N+2),2 ^ (N+2),2 ^ (N+2)⟩⟩=b from hb] at this⟩
 by_cases h0:k<0
 · have:zCH s N f k ⟨x,y,z⟩=0:=by unfold zCH;rw [if_neg (by omega)]
   rw [this];exact zHD a cap (N+1) k x y z w (by omega) h0 _ hcu (hin _ rfl)
 · by_cases h1:((N+1:Nat):Int)≤k
   · have:zCH s N f k ⟨x,y,z⟩=0:=by unfold zCH;rw [if_neg (by omega)]
     rw [this];exact zHB a cap (N+1) k x y z w (by omega) (by omega) h1 _ hcu (hin _ rfl)
   · cases hI:inB ⟨x,y,z⟩ (zL (2 ^ (N+2))) with
     | false =>
       have:zCH s N f k ⟨x,y,z⟩=0:=by unfold zCH;rw [if_neg (by rw [hI];simp)]
       rw [this];exact zHE a cap (N+1) k x y z w (by omega) (by omega) (by omega) hcu (hin _ hI)
     | true =>
       obtain ⟨j,rfl⟩ : ∃ j:Nat,k=(j:Int):=⟨k.toNat,by omega⟩
       have hj:j≤N:=by omega
       have hc:zCH s N f (j:Int) ⟨x,y,z⟩=zHT s f j ⟨x / 2 ^ j,y / 2 ^ j,z / 2 ^ j⟩:=by unfold zCH;rw [if_pos ⟨by omega,by omega,hI⟩,Int.toNat_natCast]
       rw [hc];have hl:=zX.1 hI;have hp:=(zn (show N+2≤14 by omega)).2
       simp only [zL,Pt.zero] at hl
       have hpj:(0:Int)<2 ^ j∧(2:Int) ^ j≤4096:=by
        have h1:j≤12:=by omega
        have h2:(2:Nat) ^ j≤2 ^ 12:=Nat.pow_le_pow_right (by decide) h1
        have h3:((2 ^ j:Nat):Int)=(2:Int) ^ j:=by simp
        have h4:(0:Nat)<2 ^ j:=Nat.two_pow_pos j;omega
       refine zHC a cap (N+1) x y z w (by omega) j (strOfNums (Tr.enc (trF (N - j) (zHT s f j)))) _ (2 ^ j) (x / 2 ^ j) (y / 2 ^ j) (z / 2 ^ j) (by omega) (zNh _ (N+1)) (zNi _ (by omega)) hs hpj (by omega) (by omega) (by omega) rfl rfl rfl ⟨fun W=>?_⟩ ⟨fun W=>?_⟩ hcu (hin _ hI)
       · have h:=zHO (j:Int) W;have hv:zMB (j:Int)=2 ^ j:=by unfold zMB;rw [if_pos (by omega),Int.toNat_natCast]
         rw [hv] at h;exact h.mono fun e w' ⟨h1,h2⟩=>⟨h1,h2 ▸ Below.refl _ _⟩
       · rw [show ((N+1:Nat):Int)+1 - (j:Int)=((N - j:Nat):Int)+2 by omega]
         exact zAS (N - j) (by omega) (zHT s f j) (zHV hf j hj) _ _ _ W
end Go.Proofs.YtgnfgblkpnfcnaaGreatDoor
namespace Go.Proofs.YtgnfgblkpnfcnaaGreatDoor
open Go.RowKit Go.Sort Go.Maps
open Oct
def zHa:Mat:=⟨⟨#[97,105,114]⟩,false,false,false,1,0,0,0⟩
def zDN:List Mat:=[zHa,⟨⟨#[115,116,111,110,101]⟩,true,false,false,16,0,0,0⟩,⟨⟨#[103,108,97,115,115]⟩,true,false,false,1,0,0,0⟩,⟨⟨#[108,97,109,112]⟩,true,false,false,16,15,14,10⟩,
 ⟨⟨#[115,97,110,100]⟩,true,false,true,16,0,0,0⟩,⟨⟨#[119,97,116,101,114]⟩,false,true,false,3,0,0,0⟩,⟨⟨#[108,101,97,118,101,115]⟩,true,false,false,2,0,0,0⟩,⟨⟨#[101,109,98,101,114]⟩,true,false,false,16,9,3,0⟩,⟨⟨#[102,111,103]⟩,false,false,false,2,0,0,0⟩]
theorem lv_air (w:World):Calls Tryz.prog 73 #[] w fun e w'=>e = .returned (.agg zHa.cells.toArray)∧Below w.heap.size w w':=by
 go_enter Tryz.func73,Tryz.ntmps73;go_wp2_with fail;exact bodyPost_ret (v:=.agg zHa.cells.toArray) (results_cell_row rfl _ _ w.heap.size 95 zHa.cells.toArray (0,0) _ rfl (zD _ _ _ rfl) Tryz.underlying95 rfl (by kernel_rfl)) rfl ⟨rfl,(Below.refl _ _).alloc (Nat.le_refl _) _⟩
theorem zGl (x y z:Int) (w:World):Calls Tryz.prog 28 #[x,y,z] w fun e w'=>e = .returned (.agg #[x,y,z])∧Below w.heap.size w w':=by
 go_enter Tryz.func28,Tryz.ntmps28;go_wp2_with fail;exact bodyPost_ret (v:=.agg #[x,y,z]) (results_cell_row rfl _ _ w.heap.size 23 #[x,y,z] (0,0) _ rfl (zD _ _ _ rfl) Tryz.underlying23 rfl (by kernel_rfl)) rfl ⟨rfl,(Below.refl _ _).alloc (Nat.le_refl _) _⟩
def zDL:List Value:=zDN.flatMap Mat.cells
theorem zDM : ∀ (i:Nat) (m:Mat),zDN[i]? = some m → ∀ j u,m.cells[j]? = some u→zDL[i * 8+j]? = some u:=by
 intro i m hm j u hu;have hi:i<9:=(List.getElem?_eq_some_iff.1 hm).1;have hj:j<8:=(List.getElem?_eq_some_iff.1 hu).1
 match i,hi with
 | 0,_=>obtain rfl:=Option.some.inj hm;rw [←hu];match j,hj with | 0,_ | 1,_ | 2,_ | 3,_ | 4,_ | 5,_ | 6,_ | 7,_=>rfl
 | 1,_=>obtain rfl:=Option.some.inj hm;rw [←hu];match j,hj with | 0,_ | 1,_ | 2,_ | 3,_ | 4,_ | 5,_ | 6,_ | 7,_=>rfl
 | 2,_=>obtain rfl:=Option.some.inj hm;rw [←hu];match j,hj with | 0,_ | 1,_ | 2,_ | 3,_ | 4,_ | 5,_ | 6,_ | 7,_=>rfl
 | 3,_=>obtain rfl:=Option.some.inj hm;rw [←hu];match j,hj with | 0,_ | 1,_ | 2,_ | 3,_ | 4,_ | 5,_ | 6,_ | 7,_=>rfl
 | 4,_=>obtain rfl:=Option.some.inj hm;rw [←hu];match j,hj with | 0,_ | 1,_ | 2,_ | 3,_ | 4,_ | 5,_ | 6,_ | 7,_=>rfl
 | 5,_=>obtain rfl:=Option.some.inj hm;rw [←hu];match j,hj with | 0,_ | 1,_ | 2,_ | 3,_ | 4,_ | 5,_ | 6,_ | 7,_=>rfl
 | 6,_=>obtain rfl:=Option.some.inj hm;rw [←hu];match j,hj with | 0,_ | 1,_ | 2,_ | 3,_ | 4,_ | 5,_ | 6,_ | 7,_=>rfl
 | 7,_=>obtain rfl:=Option.some.inj hm;rw [←hu];match j,hj with | 0,_ | 1,_ | 2,_ | 3,_ | 4,_ | 5,_ | 6,_ | 7,_=>rfl
 | 8,_=>obtain rfl:=Option.some.inj hm;rw [←hu];match j,hj with | 0,_ | 1,_ | 2,_ | 3,_ | 4,_ | 5,_ | 6,_ | 7,_=>rfl
theorem zGt (w:World):Calls Tryz.prog 34 #[] w fun e w' => ∃ g,e = .returned (.slice (some ⟨g,0,none⟩) 9 9)∧SlM w' (some ⟨g,0,none⟩) zDN∧Below w.heap.size w w'∧w.heap.size≤g:=by
 have h0:=Bx.mk fun W=>lv_air W;go_enter Tryz.func34,Tryz.ntmps34;go_wp2_with fail;refine (h0.out _).mono ?_;rintro _ w1 ⟨rfl,hb⟩;clear h0;unfold Mat.cells zHa;simp only;go_wp2_with fail;go_ret;refine ⟨_,rfl,?_,hb.alloc hb.size _,hb.size⟩;intro i m hm;refine ⟨_,0,rfl,fun j u hu=>?_⟩;have h:=zDM i m hm j u hu;rw [Nat.zero_add];have hk:Bk (w1.alloc (.cells zDL.toArray 95)) w1.heap.size zDL.toArray 95:=zD _ _ _ rfl;exact hk.cell (i * 8+j) (by simpa using h)
end Go.Proofs.YtgnfgblkpnfcnaaGreatDoor
end
