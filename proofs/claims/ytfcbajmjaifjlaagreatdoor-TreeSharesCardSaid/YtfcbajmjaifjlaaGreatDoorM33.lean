/- Byt, Inp, Sho: joined by program, for one claim. -/
import Derived.Test.YtfcbajmjaifjlaaGreatDoorM32
set_option maxRecDepth 100000
set_option linter.unusedVariables false
set_option linter.unusedSimpArgs false
namespace Go.Proofs.YtfcbajmjaifjlaaGreatDoor
section
open Go.RowKit Go.Sort
theorem zEW {ys:List Int} (h:Byt ys):Go.Lib.strCells (strOfNums ys)=ys.map (Value.int .u8):=by
 have h3:=zMq h;unfold Go.Lib.strCells
 conv=>rhs;rw [←h3]
 unfold bs;rw [List.map_map];rfl
theorem zCU {P:Program} {w:World} {ops:Array Oper} {rest:List Oper} {o:Oper} {a:Act} {Q:Exit→Act→World→Prop} (hgd:o.guard=none) (sl x:Operand) (t u:TypeId)
 (ho:o.op = .call { callee:=.builtin .append,args:=#[sl,x],argTypes:=#[t,u] })
 (B:Nat) (e:TypeId) (ht:P.underlying t=some (.slice e)) (hu:P.underlying u=some .string) (hi:(P.info? e).map (fun i=>(i.zero,i.size,i.bytes))=some (some (.int .u8 0),1,1))
 (v:Value) (xs ys:List Int) (hs:a.eval sl=v) (hown:Own w B e .u8 v xs) (hy:Byt ys) (hx:a.eval x = .string (strOfNums ys)) (hlen:xs.length+ys.length≤1000000000) (hbase:B≤w.heap.size)
 (h : ∀ v' w',Own w' B e .u8 v' (xs++ys)→w.grownBy w' v.ownBlock→wpList P ops Q rest (a.put o.dst v') w'):wpList P ops Q (o::rest) a w:=by
 obtain ⟨i0,hi0,hz0,hz1,hz2⟩:=info_parts hi;have hsz:=strOfNums_size ys;refine Go.Lib.wpList_append_own_string w hgd sl x t u ho B e i0 ht hu hi0 hz0 hz1 hz2 v xs.length (xs.map (Value.int .u8)) hs hown (strOfNums ys) hx (by rw [hsz];unfold maxLen;omega) (by rw [hsz];omega) hbase fun v' w' h1 h2 _=>h v' w' ?_ h2
 unfold Own;rw [hsz,zEW hy] at h1;rw [List.length_append,List.map_append];exact h1
def wb (p:List Int):List Int:=vi (2 * p.length)++p
theorem byt_wb {p:List Int} (h:Byt p):Byt (wb p):=(zKZ _).append h
theorem zKt (z:Nat) (hz:z≤2000000000000):(vi z).length≤7:=zMb 6 z (by have:128 ^ (6+1)=562949953421312:=(by decide);omega)
theorem zMa (p:List Int) (h:p.length≤1000000):(wb p).length≤p.length+7:=by
 unfold wb;rw [List.length_append];have:=zKt (2 * p.length) (by omega)
 omega
theorem PadI.str {w:World} {v v':Value} {xs ys:List Int} {w1 w4:World} (h:PadI w v xs w1) (ho:Own w4 w.heap.size 5 .u8 v' (xs++ys)) (hg:w1.grownBy w4 v.ownBlock):PadI w v' (xs++ys) w4:=by
 have hne : ∀ k,k<w.heap.size→v.ownBlock ≠ some k:=fun k hk e=>by have:=(h.own.lt k e).1;omega
 have hs:=h.bel.size;exact ⟨ho,h.bel.trans ⟨hg.os,hg.tape,hg.output,hg.size,fun k hk=>hg.block k (by omega) (fun e=>hne k hk e.symm)⟩⟩
theorem zKY (p:List Int) (hb:Byt p) (hl:p.length≤1000000) (w:World):Calls Tryz.prog 106 #[.string (strOfNums p)] w (zF9 w (wb p)):=by
 have hI:=Bx.mk (zGY p.length (by omega) w)
 have hsz:(strOfNums p).size=p.length:=strOfNums_size p;have hb:=Bx.mk hb;have hln:Bx ((vi (2 * p.length)).length+p.length≤1000000000):=⟨by have:=zKt (2 * p.length) (by omega);omega⟩
 unfold wb;generalize vi (2 * p.length)=xs at *;go_enter Tryz.func106,Tryz.ntmps106;go_wp2_with fail;refine hI.out.mono ?_;rintro _ w1 ⟨v1,rfl,hp1⟩;replace hp1:=Bx.mk hp1;go_wp2_with (refine zCU rfl _ _ _ _ rfl w.heap.size 5 Tryz.underlying107 Tryz.underlying9 (by kernel_rfl) _ xs p rfl hp1.out.own hb.out rfl hln.out hp1.out.bel.size ?_)
 intro v2 w2 ho hg;have hp2:=Bx.mk (hp1.out.str ho hg);clear ho hg hp1;go_wp2_with fail;go_ret;exact ⟨_,rfl,hp2.out⟩
def zGA (tag:Int) (ps:List (List Int)):List Int:=tag % 256::(ps.map wb).flatten
theorem zKE (tag:Int) (ps:List (List Int)) (p:List Int):zGA tag (ps++[p])=zGA tag ps++wb p:=by unfold zGA;simp
theorem zHP (tag:Int) (k:Nat) : ∀ {ps:List (List Int)},(∀ p∈ps,p.length≤1000)→ps.length≤k→(zGA tag ps).length≤1+k * 1007:=by
 have key : ∀ {ps:List (List Int)},(∀ p∈ps,p.length≤1000)→((ps.map wb).flatten).length≤ps.length * 1007:=by
  intro ps
  induction ps with
  | nil=>intro _;simp
  | cons p ps ih =>
    intro h;rw [List.map_cons,List.flatten_cons,List.length_append,List.length_cons];have h1:=ih fun q hq=>h q (List.mem_cons_of_mem _ hq);have h2:=h p List.mem_cons_self;have h3:=zMa p (by omega)
    omega
 intro ps h hk;unfold zGA;rw [List.length_cons];have h1:=key h;have h2:ps.length * 1007≤k * 1007:=Nat.mul_le_mul_right _ hk;omega
def dig (kc:List Int) (tag:Int) (ps:List (List Int)):List Int:=(sha kc (zGA tag ps)).take 16
theorem PadI.start {w:World} {v:Value} {xs:List Int} {w1:World} (ho:Own w1 w.heap.size 5 .u8 v xs) (hb:Below w.heap.size w w1):PadI w v xs w1:=⟨ho,hb⟩
structure Parts (ps:List (List Int)):Prop where
 byt : ∀ p∈ps,Byt p
 len : ∀ p∈ps,p.length≤1000
 few:ps.length≤20
def z16:List Int:=List.replicate 16 0
structure ShoI (w:World) (b o:Nat) (xs:List Int) (i:Nat) (wr:World):Prop where
 bel:Below w.heap.size w wr
 kr:Bl wr w.heap.size .u8 z16 46
 kb:Bl wr b .u8 xs 154
 ko:Bl wr o .u8 (xs.take i++List.replicate (16 - i) 0) 46
 ap:w.heap.size<b∧b<o
theorem ShoI.put {w wr:World} {b o:Nat} {xs:List Int} {i:Nat} {x:Int} (h:ShoI w b o xs i wr) (hi:i<16) (hx:xs[i]? = some x):ShoI w b o xs (i+1) (wr.setCell ⟨o,i,none⟩ (.int .u8 x)):=by
 have ha:=h.ap;have hl:i<xs.length:=(List.getElem?_eq_some_iff.1 hx).1;have hti:(xs.take i).length=i:=by rw [List.length_take];omega
 refine ⟨h.bel.setCell (by show w.heap.size≤o;omega) _,h.kr.other _ _ (by show w.heap.size ≠ o;omega),h.kb.other _ _ (by show b ≠ o;omega),?_,ha⟩
 have:=h.ko.put i x;rw [show 16 - i=(16 - (i+1))+1 by omega,List.replicate_succ,List.set_append_right _ _ (by omega),hti,Nat.sub_self,List.set_cons_zero] at this
 obtain ⟨h1,rfl⟩:=List.getElem?_eq_some_iff.1 hx;rw [List.take_succ_eq_append_getElem h1,List.append_assoc];exact this
theorem ShoI.at_ {w wr:World} {b o:Nat} {xs:List Int} {i:Nat} (h:ShoI w b o xs i wr) (hi:i<16) (hl:xs.length=32):wr.cell? ⟨o,i,none⟩=some (.int .u8 0) :=
 h.ko.cell (by
  have hti:(xs.take i).length=i:=by rw [List.length_take];omega
  rw [List.getElem?_append_right (by omega),hti,Nat.sub_self,show 16 - i=(16 - (i+1))+1 by omega,List.replicate_succ];rfl)
def zCp (w:World) (xs:List Int) (e:Ending) (w':World):Prop:=e = .returned (zDr .u8 xs)∧Below w.heap.size w w'
end
end Go.Proofs.YtfcbajmjaifjlaaGreatDoor
