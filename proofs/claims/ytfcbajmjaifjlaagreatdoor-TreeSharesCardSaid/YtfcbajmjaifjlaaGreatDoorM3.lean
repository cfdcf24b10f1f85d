/- RlT, Map, Node, Vox, Tree, Store, Store2: joined by program, for one claim. -/
import Derived.Test.YtfcbajmjaifjlaaGreatDoorM2
import Derived.Maps.OwnSet
import Derived.Maps.Views
import Derived.DeepKeys4
set_option maxRecDepth 100000
set_option linter.unusedVariables false
set_option linter.unusedSimpArgs false
section
namespace Go.Proofs.YtfcbajmjaifjlaaGreatDoor
open Go.Sort Go.RowKit
section
variable {P:Program} {l:List Oper} {n:Nat} {R:Nat→Value→World→Prop} {W:World} {a:Act}
theorem zJO (hn:n≤l.length) (B:RelB l n) (hb:zBo .any l n=true) (ht:zFF .any l n=true) (hf : ∀ i,i<n→zKn (R i)) (hd : ∀ i d,i<n→zN l i=some d→d<a.tmps.size)
 (hop : ∀ i o,i<n→l[i]? = some o → ∀ (ρ:Operand→Value) w,Below W.heap.size W w→(∀ v,ρ (.const v)=v)→(∀ g,ρ (.global g) = .pointer (some ⟨g,0,none⟩))→(∀ f,ρ (.func f) = .func (.func f) #[] #[]) →
  (∀ d,.tmp d∈o.op.operands→zC7 l n R a d (ρ (.tmp d)) w)→zAe P w (R i) ((execOp ρ o).run P w))
 {Q:Exit→Act→World→Prop} (hend : ∀ a' w',RI l n R W a (Array.replicate n true) a' w'→wpAny P .any l.toArray Q (l.length - n) (Array.replicate n true++Array.replicate (l.length - n) false) a' w') :
 ∀ (f:Nat) (s:Array Bool) (a':Act) (w':World),s.size=n→zMW .any l s→unl s=f→RI l n R W a s a' w'→wpAny P .any l.toArray Q (f+(l.length - n)) (s++Array.replicate (l.length - n) false) a' w'
 | 0, s, a', w', hs, _, hu, I => by
   have e:s=Array.replicate n true:=by rw [←hs];exact zBC hu
   rw [Nat.zero_add,e];rw [e] at I;exact hend a' w' I
 | f + 1, s, a', w', hs, hsh, hu, I => by
   obtain ⟨k,hk,hun⟩:=zCY (s:=s) (by omega)
   rw [show f+1+(l.length - n)=(f+(l.length - n))+1 by omega]
   refine ⟨fun h0=>?_,fun i hi=>?_⟩
   · obtain ⟨i,hi⟩:=zAX (g:=l.length - n) hs hn hb (k+1) k (by omega) (by omega) hun
     rw [h0] at hi;cases hi
   · have hin:=zBU hs hsh (by omega:k<n) hun ht hi
     have hiu:s.getD i true=false:=by have:=(mem_ready.1 hi).1;rwa [zAu hs hin] at this
     refine wpOp_mono (fun a'' w'' I'=>?_) (zGJ B hf hd hop hs I hin hi hiu);rw [zDs (by omega)]
     refine zJO hn B hb ht hf hd hop hend f _ a'' w'' (by simpa using hs) (zEY hsh (zBh hs hin hb hi) hin) ?_ I'
     have:=zCX (s:=s) (by omega) hiu
     omega
def zHJ (l:List Oper) (n:Nat):Bool :=
 decide (n<l.length) && zBo .any l n && zFF .any l n && relB l n && Region.seqB .any l.toArray (l.length - n) n (Array.replicate n true++Array.replicate (l.length - n) false)
theorem zHU {Q:Exit→Act→World→Prop} (n:Nat) (R:Nat→Value→World→Prop) (hB:zHJ l n=true) (m:Nat) (hdm:zMm l m=true) (ham:a.tmps.size=m)
 (hf : ∀ i,i<n→zKn (R i))
 (hop : ∀ i o,i<n→l[i]? = some o → ∀ (ρ:Operand→Value) w,Below W.heap.size W w→(∀ v,ρ (.const v)=v)→(∀ g,ρ (.global g) = .pointer (some ⟨g,0,none⟩))→(∀ f,ρ (.func f) = .func (.func f) #[] #[]) →
  (∀ d,.tmp d∈o.op.operands→zC7 l n R a d (ρ (.tmp d)) w)→zAe P w (R i) ((execOp ρ o).run P w))
 (h : ∀ (vs:List Value) w',vs.length=n→Below W.heap.size W w'→(∀ i v,vs[i]? = some v→R i v w')→wpList P l.toArray Q (l.drop n) (zAk (((l.take n).map (·.dst)).zip vs) a) w'):wpAny P .any l.toArray Q l.toArray.size (Array.replicate l.toArray.size false) a { W with drawn:=W.drawn+1 }:=by
 simp only [zHJ,Bool.and_eq_true,decide_eq_true_eq] at hB;obtain ⟨⟨⟨⟨hn,hb⟩,ht⟩,hrel⟩,hseq⟩:=hB;have B:=zDS hrel;have hd : ∀ i d,i<n→zN l i=some d→d<a.tmps.size:=fun i d _ hd=>by rw [ham];exact zCJ hdm hd
 have:=zJO (Q:=Q) (by omega) B hb ht hf hd hop (fun a' w' I=>?_) n (Array.replicate n false) a { W with drawn:=W.drawn+1 } (by simp) (fun m k h=>by
  simp only [Array.getD_eq_getD_getElem?,Array.getElem?_replicate] at h;split at h <;> simp at h) (by simp [unl])
  ⟨rfl,rfl,fun x _=>rfl,fun i d _ hs=>(by rw [getD_replicate_false] at hs;cases hs),⟨rfl,rfl,rfl,Nat.le_refl _,fun _ _=>rfl⟩⟩
 · have e:Array.replicate n false++Array.replicate (l.length - n) false=Array.replicate l.toArray.size false:=by
    rw [Array.replicate_append_replicate];congr 1;simp;omega
   rw [e,show n+(l.length - n)=l.toArray.size by simp;omega] at this
   exact this
 · have hv : ∀ i,∃ v,i<n→(∃ d,zN l i=some d∧a'.tmps[d]? = some v)∧R i v w':=by
    intro i;by_cases hi:i<n
    · obtain ⟨o,ho⟩ : ∃ o,l[i]? = some o:=⟨_,List.getElem?_eq_getElem (by omega)⟩
      obtain ⟨d,hdd⟩:=B.dst i o hi ho;have hdl:zN l i=some d:=by simp [zN,ho,hdd]
      obtain ⟨v,h1,h2⟩:=I.head i d hi (by simp [hi]) hdl
      exact ⟨v,fun _=>⟨⟨d,hdl,h1⟩,h2⟩⟩
    · exact ⟨undef,fun h=>absurd h hi⟩
   obtain ⟨g,hg⟩:=Classical.axiomOfChoice hv;have hlen:((List.range n).map g).length=n:=by simp
   have hz : ∀ i,i<n→(((l.take n).map (·.dst)).zip ((List.range n).map g))[i]? = some (zN l i,g i):=by
    intro i hi;rw [(List.getElem?_zip_eq_some (z:=(zN l i,g i))).2];refine ⟨?_,by simp [hi]⟩
    rw [List.getElem?_map,List.getElem?_take,if_pos hi];unfold zN;rw [List.getElem?_eq_getElem (show i<l.length by omega)];rfl
   have hlt : ∀ {i p},(((l.take n).map (·.dst)).zip ((List.range n).map g))[i]? = some p→i<n:=by
    intro i p hp;have:=(List.getElem?_eq_some_iff.1 hp).1;simp at this;omega
   have heq:a'=zAk (((l.take n).map (·.dst)).zip ((List.range n).map g)) a:=by
    refine zE9 ?_ fun x=>?_
    · rw [(zAq _ _).2];exact I.defers
    · by_cases hx : ∃ i,i<n∧zN l i=some x
      · obtain ⟨i,hi,hdx⟩:=hx;obtain ⟨⟨d,h1,h2⟩,_⟩:=hg i hi;rw [hdx] at h1;obtain rfl:=Option.some.inj h1;rw [h2];symm;refine zBy _ a x _ (hd i x hi hdx) ?_ (List.mem_iff_getElem?.2 ⟨i,by rw [hz i hi,hdx]⟩)
        rw [List.pairwise_iff_getElem];intro p q hp hq hpq d' e1 e2;have n1:=hz p (hlt (List.getElem?_eq_getElem hp));have n2:=hz q (hlt (List.getElem?_eq_getElem hq));rw [List.getElem?_eq_getElem hp] at n1;rw [List.getElem?_eq_getElem hq] at n2;rw [Option.some.inj n1] at e1;rw [Option.some.inj n2] at e2;exact B.dist p q d' (hlt (List.getElem?_eq_getElem hp)) (hlt (List.getElem?_eq_getElem hq)) (by omega) e1 e2
      · rw [zA0 _ _ x (fun p hp e=>by
         obtain ⟨i,hi⟩:=List.mem_iff_getElem?.1 hp;have hin:=hlt hi;rw [hz i hin] at hi;have:=Option.some.inj hi;subst this;exact hx ⟨i,hin,e⟩)]
        exact I.old x fun i hi _ e=>hx ⟨i,hi,e⟩
   have hres:=h ((List.range n).map g) w' hlen I.below (fun i v hi=>by
    have hin:i<n:=by have:=(List.getElem?_eq_some_iff.1 hi).1;simpa using this
    have:v=g i:=by simpa [hin] using hi.symm
    rw [this];exact (hg i hin).2)
   rw [←heq] at hres;have:=wpAny_of_seq (P:=P) (md:=.any) (ops:=l.toArray) (Q':=Q) (l.drop n) n (Array.replicate n true++Array.replicate (l.length - n) false) a' w' (fun j=>by simp [List.getElem?_drop]) (by simpa using hseq) hres
   simpa using this
theorem zw {id:Nat} {Q:Exit→Act→World→Prop} (n:Nat) (R:Nat→Value→World→Prop) (hm:P.follows .mixedOrders=true) (hB:zHJ l n=true) (m:Nat) (hdm:zMm l m=true) (ham:a.tmps.size=m)
 (hf : ∀ i,i<n→zKn (R i))
 (hop : ∀ i o,i<n→l[i]? = some o → ∀ (ρ:Operand→Value) w,Below W.heap.size W w→(∀ v,ρ (.const v)=v)→(∀ g,ρ (.global g) = .pointer (some ⟨g,0,none⟩))→(∀ f,ρ (.func f) = .func (.func f) #[] #[]) →
  (∀ d,.tmp d∈o.op.operands→zC7 l n R a d (ρ (.tmp d)) w)→zAe P w (R i) ((execOp ρ o).run P w))
 (h : ∀ (vs:List Value) w',vs.length=n→Below W.heap.size W w'→(∀ i v,vs[i]? = some v→R i v w')→wpList P l.toArray Q (l.drop n) (zAk (((l.take n).map (·.dst)).zip vs) a) w'):(Code.region id l.toArray true).wp P Q a W :=
 wp_region_any hm (zHU n R hB m hdm ham hf hop h)
end
end Go.Proofs.YtfcbajmjaifjlaaGreatDoor
namespace Go.Proofs.YtfcbajmjaifjlaaGreatDoor
open Go.RowKit Go.Maps
open Go.WideMaps (KeyLaw)
theorem zeroI (w:World):(zeroValue 3).run Tryz.prog w = .ok (.int .i64 0) w:=by kernel_rfl
theorem zHA:laidOutB Tryz.prog=true:=by kernel_rfl
theorem zNc:KeyLaw Tryz.prog 101:=deep_law_laid zHA (m:=3) (by omega) (of_decide_eq_true (by kernel_rfl)) (by kernel_rfl) (by kernel_rfl)
theorem zAT:Keyed Tryz.prog 101:=Keyed.of_law zNc
theorem zEf {P:Program} {k:TypeId} {R:Value→Option (DataW Unit × List MemPlace)} {w:World} {b n:Nat} {D:DataW Unit} (h:w.ownsMap P k R b n D):w.ownsMap P k R b (size D) D:=by
 obtain ⟨es,clock,hb,F,hs,rfl⟩:=h;exact ⟨es,clock,hb,F,by rw [size_eq,length_sorted];simp,rfl⟩
def MapFn (w:World) (b n:Nat) (f:Value→Option Int):Prop :=
 ∃ D : DataW Unit, w.ownsMap Tryz.prog 101 (plainElem Tryz.prog 3) b n D ∧ size D = n ∧
   ∀ key kl,keyOf Tryz.prog 101 key=some kl→(f key=none→has D kl=false) ∧ ∀ i,f key=some i→has D kl=true∧D.atKey kl (.lit (.int .i64 0)) = .lit (.int .i64 i)
theorem MapFn.kept {w w':World} {b n:Nat} {f:Value→Option Int} {row:Option Nat} (h:MapFn w b n f) (hg:w.grownBy w' row) (hne:some b ≠ row):MapFn w' b n f:=by
 obtain ⟨D,h1,hs,h2⟩:=h;exact ⟨D,h1.kept hg hne,hs,h2⟩
theorem MapFn.lt {w:World} {b n:Nat} {f:Value→Option Int} (h:MapFn w b n f):b<w.heap.size:=by
 obtain ⟨D,h1,_⟩:=h;exact h1.lt
theorem MapFn.made (w:World):MapFn (w.alloc (.map #[] 0)) w.heap.size 0 (fun _=>none) :=
 ⟨_,World.ownsMap_made w _ _ _,rfl,fun key kl hk=>⟨fun _=>rfl,fun i h=>by cases h⟩⟩
theorem MapFn.look {w:World} {b n:Nat} {f:Value→Option Int} (h:MapFn w b n f) {key:Value} {kl:Lit} (hkey:keyOf Tryz.prog 101 key=some kl) :
 (∀ i,f key=some i→(Instr.lookup 78 (.map (some b)) key true).run Tryz.prog w = .ok (.tuple #[i,.bool true]) w) ∧
 (f key=none→(Instr.lookup 78 (.map (some b)) key true).run Tryz.prog w = .ok (.tuple #[(0:Int),.bool false]) w):=by
 obtain ⟨D,h1,hs,h2⟩:=h;obtain ⟨v,ps,hrun,hv⟩:=h1.look_ok zAT Tryz.underlying78 (zeroI w) (plainElem_int Tryz.underlying3 (by decide)) hkey
 obtain ⟨c,rfl,hc,hwc⟩:=plainElem_int_inv Tryz.underlying3 hv;have hat:=congrArg Prod.fst hc;obtain ⟨k1,k2⟩:=h2 key kl hkey;refine ⟨fun i hi=>?_,fun hn=>?_⟩
 · obtain ⟨e1,e2⟩:=k2 i hi;rw [e1] at hrun;simp only at hat
   rw [e2] at hat
   injection hat with hat;injection hat with _ hat
   subst hat;exact hrun
 · have hh:=k1 hn;rw [hh] at hrun;simp only at hat
   rw [atKey_of_not_has hh] at hat
   injection hat with hat;injection hat with _ hat
   subst hat;exact hrun
open Classical in
theorem MapFn.put {w:World} {b n:Nat} {f:Value→Option Int} (h:MapFn w b n f) (hn:n<maxLen) {key:Value} {kl:Lit} (hkey:keyOf Tryz.prog 101 key=some kl) (hf:f key=none) (i:Int) (hi:(Lit.int .i64 i).wf=true) :
 ∃ w',(Instr.mapUpdate 78 (.map (some b)) key (.int .i64 i)).run Tryz.prog w = .ok () w'∧MapFn w' b (n+1) (fun v=>if v=key then some i else f v)∧w.grownBy w' (some b):=by
 obtain ⟨D,h1,hs,h2⟩:=h;have hm:=h1.isMap;obtain ⟨w',hrun,h3,h4⟩:=h1.store zAT Tryz.underlying78 hn hkey (plainElem_int Tryz.underlying3 hi)
 have hsz:size (D.put kl (.lit (.int .i64 i)))=n+1:=by
  rw [size_put (h1.tidy zAT),(h2 key kl hkey).1 hf,hs];rfl
 refine ⟨w',hrun,⟨_,h3,hsz,fun key' kl' hk'=>?_⟩,h4.grown⟩;by_cases e:key'=key
 · subst e;obtain rfl:kl'=kl:=Option.some.inj (hk'.symm.trans hkey);simp only [if_true];refine ⟨fun h=>by simp at h,fun j hj=>?_⟩
   obtain rfl:=Option.some.inj hj;exact ⟨has_put_same hm (zAT.key hkey) _,atKey_put_same hm (zAT.key hkey) _ _⟩
 · have hne:kl' ≠ kl:=fun e'=>e (zAT.inj hk' (e' ▸ hkey));simp only [if_neg e];obtain ⟨k1,k2⟩:=h2 key' kl' hk';exact ⟨fun h=>by rw [has_put_other hne];exact k1 h,fun j hj=>by rw [has_put_other hne,atKey_put_other hne];exact k2 j hj⟩
open Classical in
theorem MapFn.drop {w:World} {b n:Nat} {f:Value→Option Int} (h:MapFn w b n f) {key:Value} {kl:Lit} (hkey:keyOf Tryz.prog 101 key=some kl) {i:Int} (hf:f key=some i) (ty:TypeId) :
 ∃ w',(Builtin.delete_ #[78,101] ty #[.map (some b),key]).run Tryz.prog w = .ok (.tuple #[]) w'∧MapFn w' b (n - 1) (fun v=>if v=key then none else f v)∧w.grownBy w' (some b):=by
 obtain ⟨D,h1,hs,h2⟩:=h;obtain ⟨w',hrun,h3,h4⟩:=h1.drop zAT Tryz.underlying78 hkey ty
 have hsz:size (D.del kl)=n - 1:=by
  have:=size_del (k:=kl) (h1.tidy zAT);rw [((h2 key kl hkey).2 i hf).1,hs] at this;simp at this;omega
 refine ⟨w',hrun,⟨_,by have:=zEf h3;rwa [hsz] at this,hsz,fun key' kl' hk'=>?_⟩,h4.grown⟩
 by_cases e:key'=key
 · subst e;obtain rfl:kl'=kl:=Option.some.inj (hk'.symm.trans hkey);simp only [if_true];exact ⟨fun _=>has_del_same,fun j hj=>by cases hj⟩
 · have hne:kl' ≠ kl:=fun e'=>e (zAT.inj hk' (e' ▸ hkey));simp only [if_neg e];obtain ⟨k1,k2⟩:=h2 key' kl' hk';exact ⟨fun h=>by rw [has_del_other hne];exact k1 h,fun j hj=>by rw [has_del_other hne,atKey_del_other hne];exact k2 j hj⟩
theorem MapFn.congr {w:World} {b n:Nat} {f f':Value→Option Int} (h:MapFn w b n f) (he : ∀ key kl,keyOf Tryz.prog 101 key=some kl→f key=f' key):MapFn w b n f':=by
 obtain ⟨D,h1,hs,h2⟩:=h;refine ⟨D,h1,hs,fun key kl hk=>?_⟩;rw [←he key kl hk];exact h2 key kl hk
end Go.Proofs.YtfcbajmjaifjlaaGreatDoor
namespace Go.Proofs.YtfcbajmjaifjlaaGreatDoor
open Go.RowKit Go.Maps
def zAW (k c:Int) (s:ByteArray) (d x0 x1 x2 x3 x4 x5 x6 x7:Int):Value :=
 .agg #[k,c,.string s,d,x0,x1,x2,x3,x4,x5,x6,x7]
theorem zJh : Tryz.prog.cellsOf 101=12:=by kernel_rfl
theorem zMQ : Tryz.prog.cellsOf 98=8:=by kernel_rfl
theorem zHE : Tryz.prog.cellsOf 3=1:=by kernel_rfl
theorem strCells : Tryz.prog.cellsOf 9=1:=by kernel_rfl
theorem zGS : Tryz.prog.keyType 101=true:=by kernel_rfl
theorem zFD : ∃ m,Tryz.prog.types.size+1=m+3:=⟨Tryz.prog.types.size - 2,by have:2 ≤ Tryz.prog.types.size:=of_decide_eq_true (by kernel_rfl);omega⟩
theorem zCF (k c:Int) (s:ByteArray) (d x0 x1 x2 x3 x4 x5 x6 x7:Int) (hs:s.size≤maxLen)
 (h : ∀ y∈[k,c,d,x0,x1,x2,x3,x4,x5,x6,x7],(Lit.int .i64 y).wf=true) : ∃ kl,keyOf Tryz.prog 101 (zAW k c s d x0 x1 x2 x3 x4 x5 x6 x7)=some kl:=by
 simp only [List.mem_cons,List.not_mem_nil,or_false,forall_eq_or_imp,forall_eq] at h;obtain ⟨h1,h2,h3,g0,g1,g2,g3,g4,g5,g6,g7⟩:=h;obtain ⟨m,hm⟩:=zFD;unfold keyOf zAW;rw [Tryz.underlying101,hm];simp [zGS,Value.formed,Tryz.underlying101,zJh,Program.keyLits,Value.cells,Tryz.underlying98,Tryz.underlying3,Tryz.underlying9,zHE,strCells,zMQ,hs,h1,h2,h3,g0,g1,g2,g3,g4,g5,g6,g7,List.range_succ,List.mapM_cons,List.mapM_nil]
end Go.Proofs.YtfcbajmjaifjlaaGreatDoor
namespace Go.Proofs.YtfcbajmjaifjlaaGreatDoor
structure Pt where
 x:Int
 y:Int
 z:Int
deriving DecidableEq
structure Box where
 lo:Pt
 hi:Pt
deriving DecidableEq
def Pt.zero:Pt:=⟨0,0,0⟩
def Box.zero:Box:=⟨Pt.zero,Pt.zero⟩
def Pt.add (p q:Pt):Pt:=⟨p.x+q.x,p.y+q.y,p.z+q.z⟩
def Pt.sub (p q:Pt):Pt:=⟨p.x - q.x,p.y - q.y,p.z - q.z⟩
def inB (p:Pt) (b:Box):Bool:=decide (b.lo.x≤p.x∧p.x<b.hi.x∧b.lo.y≤p.y∧p.y<b.hi.y∧b.lo.z≤p.z∧p.z<b.hi.z)
def zG (b:Box):Bool := !inB b.lo b
def zR (b:Box):Pt:=if zG b=true then Pt.zero else b.hi.sub b.lo
def zU (b:Box):Int:=(zR b).x * (zR b).y * (zR b).z
def zy (n:Int):Box:=⟨Pt.zero,⟨n,n,n⟩⟩
def zBQ (a b:Box):Box:=⟨⟨max a.lo.x b.lo.x,max a.lo.y b.lo.y,max a.lo.z b.lo.z⟩,⟨min a.hi.x b.hi.x,min a.hi.y b.hi.y,min a.hi.z b.hi.z⟩⟩
def zD (a b:Box):Box:=if zG (zBQ a b)=true then Box.zero else zBQ a b
def zQ (a b:Box):Bool:=zG b || decide (zD a b=b)
def zT (b:Box) (p:Pt):Int:=if inB p b=true then ((p.z - b.lo.z) * (zR b).y+(p.y - b.lo.y)) * (zR b).x+(p.x - b.lo.x) else -1
def atB (b:Box) (i:Int):Pt:=if 0≤i∧i<zU b then ⟨b.lo.x+i % (zR b).x,b.lo.y+i / (zR b).x % (zR b).y,b.lo.z+i / (zR b).x / (zR b).y⟩ else Pt.zero
def okC (n:Int):Bool:=decide (-1048575≤n∧n≤1048575)
def okP (p:Pt):Bool:=okC p.x && okC p.y && okC p.z
def okB (b:Box):Bool:=okP b.lo && okP b.hi
structure Small (b:Box) (m:Int):Prop where
 lx : -m≤b.lo.x
 ly : -m≤b.lo.y
 lz : -m≤b.lo.z
 hx:b.hi.x≤m
 hy:b.hi.y≤m
 hz:b.hi.z≤m
theorem zX {p:Pt} {b:Box}:inB p b=true ↔ b.lo.x≤p.x∧p.x<b.hi.x∧b.lo.y≤p.y∧p.y<b.hi.y∧b.lo.z≤p.z∧p.z<b.hi.z:=by simp [inB]
theorem za {b:Box}:zG b=false ↔ b.lo.x<b.hi.x∧b.lo.y<b.hi.y∧b.lo.z<b.hi.z:=by simp [zG,inB]
theorem zDg {b:Box}:zG b=true ↔ ¬(b.lo.x<b.hi.x∧b.lo.y<b.hi.y∧b.lo.z<b.hi.z):=by
 rw [←za];simp
theorem zDY {p:Pt}:okP p=true ↔ (-1048575≤p.x∧p.x≤1048575)∧(-1048575≤p.y∧p.y≤1048575)∧(-1048575≤p.z∧p.z≤1048575):=by simp [okP,okC,and_assoc]
theorem zAS {b:Box} (h:okB b=true):Small b 1048575:=by
 simp only [okB,Bool.and_eq_true,zDY] at h;exact ⟨by omega,by omega,by omega,by omega,by omega,by omega⟩
theorem zG2 (b:Box) {m:Int} (hm:0≤m) (h:Small b m):(0≤(zR b).x∧(zR b).x≤2 * m)∧(0≤(zR b).y∧(zR b).y≤2 * m)∧(0≤(zR b).z∧(zR b).z≤2 * m):=by
 unfold zR;obtain ⟨h1,h2,h3,h4,h5,h6⟩:=h;split
 · simp [Pt.zero];omega
 · rename_i he;have:=za.1 (by simpa using he)
   simp only [Pt.sub];omega
theorem zFe {a b m n:Int} (ha:0≤a) (hb:0≤b) (h:a≤m) (h':b≤n):0≤a * b∧a * b≤m * n :=
 ⟨Int.mul_nonneg ha hb,Int.mul_le_mul h h' hb (Int.le_trans ha h)⟩
theorem zDV (b:Box) {m:Int} (hm:0≤m) (h:Small b m):(0≤(zR b).x * (zR b).y∧(zR b).x * (zR b).y≤2 * m * (2 * m))∧0≤zU b∧zU b≤2 * m * (2 * m) * (2 * m):=by
 obtain ⟨⟨x0,x1⟩,⟨y0,y1⟩,z0,z1⟩:=zG2 b hm h;have h1:=zFe x0 y0 x1 y1;exact ⟨h1,zFe h1.1 z0 h1.2 z1⟩
theorem zEA {b:Box} (h:zG b=true):zU b=0:=by simp [zU,zR,h,Pt.zero]
theorem zc {b:Box} (h:zG b=false):zR b=b.hi.sub b.lo:=by simp [zR,h]
theorem zt {p:Pt} {b:Box} (h:inB p b=true):zG b=false:=by
 have:=zX.1 h;rw [za];omega
theorem ze {p:Pt} {b:Box} (h:inB p b=true):0≤zT b p∧zT b p<zU b:=by
 have he:=zt h;have h':=zX.1 h;unfold zT zU;rw [if_pos h,zc he];simp only [Pt.sub];generalize hx:p.x - b.lo.x=dx;generalize hy:p.y - b.lo.y=dy;generalize hz:p.z - b.lo.z=dz;generalize hsx:b.hi.x - b.lo.x=sx;generalize hsy:b.hi.y - b.lo.y=sy;generalize hsz:b.hi.z - b.lo.z=sz;have a1:0≤dx:=by omega
 have a2:dx+1≤sx:=by omega
 have a3:0≤dy:=by omega
 have a4:dy+1≤sy:=by omega
 have a5:0≤dz:=by omega
 have a6:dz+1≤sz:=by omega
 have b1:0≤dz * sy:=Int.mul_nonneg a5 (by omega)
 have b2:dz * sy+sy≤sz * sy:=by
  have:=Int.mul_le_mul_of_nonneg_right a6 (show 0≤sy by omega)
  rw [Int.add_mul,Int.one_mul] at this;exact this
 have b3:0≤(dz * sy+dy) * sx:=Int.mul_nonneg (by omega) (by omega)
 have b4:(dz * sy+dy+1) * sx≤sz * sy * sx:=Int.mul_le_mul_of_nonneg_right (by omega) (by omega)
 rw [Int.add_mul,Int.one_mul] at b4;have b5:sx * sy * sz=sz * sy * sx:=by rw [Int.mul_comm sx sy,Int.mul_comm (sy * sx) sz,Int.mul_assoc]
 omega
theorem zMs {b:Box} {i:Int} (h0:0≤i) (h1:i<zU b):inB (atB b i) b=true∧zT b (atB b i)=i:=by
 have he:zG b=false:=by
  cases h:zG b with
  | false=>rfl
  | true=>rw [zEA h] at h1;omega
 have h':=za.1 he
 have hin:inB (atB b i) b=true:=by
  rw [zX];unfold atB;rw [if_pos ⟨h0,h1⟩];unfold zU at h1;rw [zc he] at h1 ⊢;simp only [Pt.sub] at h1 ⊢;generalize hsx:b.hi.x - b.lo.x=sx at *;generalize hsy:b.hi.y - b.lo.y=sy at *;generalize hsz:b.hi.z - b.lo.z=sz at *;have p1:0<sx:=by omega
  have p2:0<sy:=by omega
  have m1:=Int.emod_nonneg i (show sx ≠ 0 by omega)
  have m2:=Int.emod_lt_of_pos i p1;have m3:=Int.emod_nonneg (i / sx) (show sy ≠ 0 by omega)
  have m4:=Int.emod_lt_of_pos (i / sx) p2;have d1:0≤i / sx:=Int.ediv_nonneg h0 (by omega)
  have d2:0≤i / sx / sy:=Int.ediv_nonneg d1 (by omega)
  have d3:i / sx / sy<sz:=by
   rw [Int.ediv_lt_iff_lt_mul p2,Int.ediv_lt_iff_lt_mul p1,Int.mul_comm sz sy,Int.mul_assoc,Int.mul_comm sz sx,←Int.mul_assoc,Int.mul_comm sy sx];exact h1
  omega
 refine ⟨hin,?_⟩;unfold zT;rw [if_pos hin];unfold atB;rw [if_pos ⟨h0,h1⟩,zc he];simp only [Pt.sub];generalize hsx:b.hi.x - b.lo.x=sx;generalize hsy:b.hi.y - b.lo.y=sy;have e1:=Int.emod_add_mul_ediv (i / sx) sy;have e2:=Int.emod_add_mul_ediv i sx;rw [show b.lo.z+i / sx / sy - b.lo.z=i / sx / sy by omega,show b.lo.y+i / sx % sy - b.lo.y=i / sx % sy by omega,show b.lo.x+i % sx - b.lo.x=i % sx by omega]
 rw [Int.mul_comm (i / sx / sy) sy,Int.add_comm (sy * _),e1,Int.mul_comm (i / sx) sx];omega
theorem zB4 {b:Box} (h:zG b=false):1≤zU b:=by
 have h':=za.1 h;unfold zU;rw [zc h];simp only [Pt.sub];have h1:1≤(b.hi.x - b.lo.x) * (b.hi.y - b.lo.y):=Int.mul_pos (by omega) (by omega)
 exact Int.mul_pos (by omega) (by omega)
end Go.Proofs.YtfcbajmjaifjlaaGreatDoor
namespace Go.Proofs.YtfcbajmjaifjlaaGreatDoor
namespace Oct
inductive Tr where
 | uni (c:Int)
 | brick (l:List Int)
 | node (d:Nat) (ch:Fin 8→Tr)
namespace Tr
open Classical in
noncomputable def mkInner (d:Nat) (ch:Fin 8→Tr):Tr:=if (∃ c,ch 0 = .uni c) ∧ ∀ i,ch i=ch 0 then ch 0 else .node d ch
def mkBrick (l:List Int):Tr:=if ∀ x∈l,x=l.headD 0 then .uni (l.headD 0) else .brick l
def octN (n:Nat) (p:Pt):Nat:=(p.x / 2 ^ (n+2) % 2+2 * (p.y / 2 ^ (n+2) % 2)+4 * (p.z / 2 ^ (n+2) % 2)).toNat
theorem zJf (n:Nat) (p:Pt):octN n p<8:=by unfold octN;omega
def oct (n:Nat) (p:Pt):Fin 8:=⟨octN n p,zJf n p⟩
def idx (p:Pt):Nat:=(p.x % 4+4 * (p.y % 4)+16 * (p.z % 4)).toNat
theorem idx_lt (p:Pt):idx p<64:=by unfold idx;omega
def cor (a:Pt) (n:Nat) (i:Nat):Pt:=⟨a.x+(i % 2:Nat) * 2 ^ (n+2),a.y+(i / 2 % 2:Nat) * 2 ^ (n+2),a.z+(i / 4:Nat) * 2 ^ (n+2)⟩
def cellAt (a:Pt) (k:Nat):Pt:=⟨a.x+(k % 4:Nat),a.y+(k / 4 % 4:Nat),a.z+(k / 16:Nat)⟩
def getT:Tr→Nat→Pt→Int
 | .uni c,_,_=>c
 | .brick l,_,p=>l.getD (idx p) 0
 | .node _ ch,n+1,p=>getT (ch (oct n p)) n p
 | .node _ _,0,_=>0
def cells:Tr→List Int
 | .uni c=>List.replicate 64 c
 | .brick l=>l
 | .node _ _=>[]
def kid (t:Tr) (i:Fin 8):Tr:=match t with
 | .node _ ch=>ch i
 | t=>t
noncomputable def setT:Nat→Tr→Pt→Int→Tr
 | 0,t,p,c=>mkBrick (t.cells.set (idx p) c)
 | n+1,t,p,c=>mkInner (n+3) fun i=>if i=oct n p then setT n (t.kid i) p c else t.kid i
noncomputable def can (f:Pt→Int):Nat→Pt→Tr
 | 0,a=>mkBrick ((List.range 64).map fun k=>f (cellAt a k))
 | n+1,a=>mkInner (n+3) fun i=>can f n (cor a n i.val)
def InC (n:Nat) (a p:Pt):Prop:=p.x / 2 ^ (n+2)=a.x / 2 ^ (n+2)∧p.y / 2 ^ (n+2)=a.y / 2 ^ (n+2)∧p.z / 2 ^ (n+2)=a.z / 2 ^ (n+2)
def Al (n:Nat) (a:Pt):Prop:=a.x % 2 ^ (n+2)=0∧a.y % 2 ^ (n+2)=0∧a.z % 2 ^ (n+2)=0
theorem zGh (a m:Int) (hm:0<m):a / (m * 2)=a / m / 2:=by rw [Int.ediv_ediv_of_nonneg (by omega)]
theorem zM3 {a p m:Int} (hm:0<m) (ha:a % (m * 2)=0) (h:p / (m * 2)=a / (m * 2)):p / m=(a+p / m % 2 * m) / m∧(a+p / m % 2 * m) % m=0:=by
 rw [zGh _ _ hm,zGh _ _ hm] at h
 have h1:a % m=0:=by
  have:=Int.emod_emod_of_dvd a (⟨2,rfl⟩:m ∣ m * 2);rw [ha] at this;simpa using this.symm
 have h2:(a+p / m % 2 * m) / m=a / m+p / m % 2:=Int.add_mul_ediv_right _ _ (by omega)
 have h3:a / m % 2=0:=by
  have h4:a / m * m=a:=Int.ediv_mul_cancel (Int.dvd_of_emod_eq_zero h1);have h5:a / (m * 2) * (m * 2)=a:=Int.ediv_mul_cancel (Int.dvd_of_emod_eq_zero ha)
  have h6:a / m=a / (m * 2) * 2:=by
   have:a / m * m=(a / (m * 2) * 2) * m:=by rw [h4,Int.mul_assoc,Int.mul_comm 2 m,h5]
   exact Int.eq_of_mul_eq_mul_right (by omega) this
  omega
 refine ⟨by rw [h2];omega,?_⟩
 rw [Int.add_mul_emod_self_right];exact h1
theorem pow_succ2 (n:Nat):(2:Int) ^ (n+1+2)=2 ^ (n+2) * 2:=Int.pow_succ ..
theorem pow_pos2 (n:Nat):(0:Int)<2 ^ (n+2):=Int.pow_pos (by decide)
theorem zFX (n:Nat) (p:Pt):((octN n p % 2:Nat):Int)=p.x / 2 ^ (n+2) % 2∧((octN n p / 2 % 2:Nat):Int)=p.y / 2 ^ (n+2) % 2∧((octN n p / 4:Nat):Int)=p.z / 2 ^ (n+2) % 2:=by
 unfold octN;generalize p.x / 2 ^ (n+2)=a;generalize p.y / 2 ^ (n+2)=b;generalize p.z / 2 ^ (n+2)=c;omega
theorem zHH {n:Nat} {a p:Pt} (ha:Al (n+1) a) (h:InC (n+1) a p):InC n (cor a n (oct n p).val) p:=by
 obtain ⟨h1,h2,h3⟩:=h;obtain ⟨a1,a2,a3⟩:=ha;rw [pow_succ2] at h1 h2 h3 a1 a2 a3;obtain ⟨o1,o2,o3⟩:=zFX n p;unfold InC cor oct;simp only [o1,o2,o3];exact ⟨(zM3 (pow_pos2 n) a1 h1).1,(zM3 (pow_pos2 n) a2 h2).1,(zM3 (pow_pos2 n) a3 h3).1⟩
theorem al_cor {n:Nat} {a:Pt} (ha:Al (n+1) a) (i:Nat):Al n (cor a n i):=by
 obtain ⟨a1,a2,a3⟩:=ha
 have key : ∀ a b:Int,a % 2 ^ (n+1+2)=0→(a+b * 2 ^ (n+2)) % 2 ^ (n+2)=0:=by
  intro a b h;rw [pow_succ2] at h;rw [Int.add_mul_emod_self_right];have:=Int.emod_emod_of_dvd a (⟨2,rfl⟩:(2:Int) ^ (n+2) ∣ 2 ^ (n+2) * 2);rw [h] at this;simpa using this.symm
 exact ⟨key _ _ a1,key _ _ a2,key _ _ a3⟩
theorem inC_other {n:Nat} {a p:Pt} (ha:Al (n+1) a) {i:Fin 8} (h:InC n (cor a n i.val) p):i=oct n p∧InC (n+1) a p:=by
 obtain ⟨h1,h2,h3⟩:=h;obtain ⟨a1,a2,a3⟩:=ha;rw [pow_succ2] at a1 a2 a3;unfold cor at h1 h2 h3;simp only [] at h1 h2 h3
 have key : ∀ (a p b m:Int),0<m→a % (m * 2)=0→(b=0∨b=1)→p / m=(a+b * m) / m→p / m % 2=b∧p / (m * 2)=a / (m * 2):=by
  intro a p b m hm ha hb h;have h5:a / (m * 2) * (m * 2)=a:=Int.ediv_mul_cancel (Int.dvd_of_emod_eq_zero ha);have h6:a=(a / (m * 2) * 2) * m:=by rw [Int.mul_assoc,Int.mul_comm 2 m,h5]
  rw [Int.add_mul_ediv_right _ _ (by omega)] at h
  have h7:a / m=a / (m * 2) * 2:=by
   conv=>lhs;rw [h6]
   exact Int.mul_ediv_cancel _ (by omega)
  rw [zGh p m hm];omega
 have hi:=i.isLt;obtain ⟨x1,x2⟩:=key _ _ _ _ (pow_pos2 n) a1 (by omega) h1
 obtain ⟨y1,y2⟩:=key _ _ _ _ (pow_pos2 n) a2 (by omega) h2
 obtain ⟨z1,z2⟩:=key _ _ _ _ (pow_pos2 n) a3 (by omega) h3
 refine ⟨Fin.ext ?_,?_⟩
 · obtain ⟨o1,o2,o3⟩:=zFX n p
   show i.val=octN n p
   have:=zJf n p;omega
 · unfold InC;rw [pow_succ2];exact ⟨x2,y2,z2⟩
theorem getD_el {l:List Int} {i:Nat} (h:i<l.length):l.getD i 0=l[i]:=by simp [List.getD,h]
theorem zGU {l:List Int} (hl:l.length=64) (n:Nat) (p:Pt):getT (mkBrick l) n p=l.getD (idx p) 0:=by
 unfold mkBrick;split
 · rename_i h;have hi:=idx_lt p;rw [getD_el (by omega)]
   exact (h _ (List.getElem_mem _)).symm
 · rfl
theorem zE0 {l:List Int} (hl:l.length=64):cells (mkBrick l)=l:=by
 unfold mkBrick;split
 · rename_i h;apply List.ext_getElem
   · simp [cells,hl]
   · intro i h1 h2;simp only [cells,List.getElem_replicate];exact (h _ (List.getElem_mem h2)).symm
 · rfl
theorem mkInner_kid (d:Nat) (ch:Fin 8→Tr) (i:Fin 8):kid (mkInner d ch) i=ch i:=by
 unfold mkInner;split
 · rename_i h;obtain ⟨⟨c,hc⟩,h⟩:=h;rw [h i];rw [hc];rfl
 · rfl
theorem zGT (d n:Nat) (ch:Fin 8→Tr) (p:Pt):getT (mkInner d ch) (n+1) p=getT (ch (oct n p)) n p:=by
 unfold mkInner;split
 · rename_i h;obtain ⟨⟨c,hc⟩,h⟩:=h;rw [h (oct n p),hc];rfl
 · rfl
theorem zBP (f:Pt→Int) (a:Pt):((List.range 64).map fun k=>f (cellAt a k)).length=64:=by simp
theorem zHG {a p:Pt} (ha:Al 0 a) (h:InC 0 a p):cellAt a (idx p)=p:=by
 obtain ⟨h1,h2,h3⟩:=h;obtain ⟨a1,a2,a3⟩:=ha;have e:(2:Int) ^ (0+2)=4:=by decide
 rw [e] at h1 h2 h3 a1 a2 a3;unfold cellAt idx;cases p;simp only [Pt.mk.injEq] at *;omega
theorem inC_cell {a p:Pt} (ha:Al 0 a) {k:Nat} (hk:k<64) (h:cellAt a k=p):InC 0 a p∧idx p=k:=by
 subst h;obtain ⟨a1,a2,a3⟩:=ha;have e:(2:Int) ^ (0+2)=4:=by decide
 rw [e] at a1 a2 a3;unfold InC idx cellAt;rw [e];simp only [];omega
theorem get_can (f:Pt→Int) : ∀ (n:Nat) (a p:Pt),Al n a→InC n a p→getT (can f n a) n p=f p
 | 0, a, p, ha, h => by
   unfold can;rw [zGU (zBP f a)];have hi:=idx_lt p;rw [getD_el (by simpa using hi)]
   simp only [List.getElem_map,List.getElem_range];rw [zHG ha h]
 | n + 1, a, p, ha, h => by
   unfold can;rw [zGT];exact get_can f n _ p (al_cor ha _) (zHH ha h)
theorem can_congr {f f':Pt→Int} : ∀ (n:Nat) (a:Pt),Al n a→(∀ p,InC n a p→f p=f' p)→can f n a=can f' n a
 | 0, a, ha, h => by
   unfold can
   congr 1
   apply List.map_congr_left;intro k hk;exact h _ (inC_cell ha (List.mem_range.1 hk) rfl).1
 | n + 1, a, ha, h => by
   unfold can
   congr 1
   funext i
   exact can_congr n _ (al_cor ha _) fun p hp=>h p (inC_other ha hp).2
def upd (f:Pt→Int) (p:Pt) (c:Int):Pt→Int:=fun q=>if q=p then c else f q
theorem set_can (f:Pt→Int) (c:Int) : ∀ (n:Nat) (a p:Pt),Al n a→InC n a p→setT n (can f n a) p c=can (upd f p c) n a
 | 0, a, p, ha, h => by
   unfold setT can;rw [zE0 (zBP f a)]
   congr 1
   apply List.ext_getElem
   · simp
   · intro k h1 h2;have hk:k<64:=by simpa using h2
     rw [List.getElem_set];simp only [List.getElem_map,List.getElem_range];unfold upd;split
     · rename_i e;rw [if_pos (by rw [←e];exact zHG ha h)]
     · rename_i e;rw [if_neg (fun e'=>e (inC_cell ha hk e').2)]
 | n + 1, a, p, ha, h => by
   unfold setT
   conv=>rhs;unfold can
   congr 1
   funext i
   conv=>lhs;unfold can
   rw [mkInner_kid];split
   · rename_i e;subst e;exact set_can f c n _ p (al_cor ha _) (zHH ha h)
   · rename_i e;apply can_congr n _ (al_cor ha _);intro q hq;unfold upd;rw [if_neg];rintro rfl;exact e (inC_other ha hq).1
open Classical in
noncomputable def add:Tr→List Tr→List Tr
 | .node d ch,ts=>if .node d ch∈ts then ts else (List.finRange 8).foldl (fun a i=>add (ch i) a) ts++[.node d ch]
 | .uni c,ts=>if .uni c∈ts then ts else ts++[.uni c]
 | .brick l,ts=>if .brick l∈ts then ts else ts++[.brick l]
noncomputable def addK (ch:Fin 8→Tr) (k:Nat) (ts:List Tr):List Tr:=((List.finRange 8).take k).foldl (fun a i=>add (ch i) a) ts
theorem addK_zero (ch:Fin 8→Tr) (ts:List Tr):addK ch 0 ts=ts:=rfl
theorem addK_succ (ch:Fin 8→Tr) {k:Nat} (hk:k<8) (ts:List Tr):addK ch (k+1) ts=add (ch ⟨k,hk⟩) (addK ch k ts):=by
 unfold addK;rw [List.take_succ_eq_append_getElem (by simpa using hk),List.foldl_append]
 simp
theorem zMU (ch:Fin 8→Tr) (ts:List Tr):addK ch 8 ts=(List.finRange 8).foldl (fun a i=>add (ch i) a) ts:=by
 unfold addK;rw [List.take_of_length_le (by simp)]
open Classical in
theorem add_node (d:Nat) (ch:Fin 8→Tr) (ts:List Tr):add (.node d ch) ts=if .node d ch∈ts then ts else addK ch 8 ts++[.node d ch]:=by
 rw [zMU,add]
open Classical in
noncomputable def ins (t:Tr) (ts:List Tr):List Tr:=if t∈ts then ts else ts++[t]
theorem add_uni (c:Int) (ts:List Tr):add (.uni c) ts=ins (.uni c) ts:=by rw [add,ins]
theorem add_brick (l:List Int) (ts:List Tr):add (.brick l) ts=ins (.brick l) ts:=by rw [add,ins]
def Closed (ts:List Tr):Prop:=ts.Nodup ∧ ∀ d ch,Tr.node d ch∈ts → ∀ i,ch i∈ts
theorem Closed.nil:Closed []:=⟨by simp,fun d ch h=>by simp at h⟩
theorem addK_ind {P:List Tr→Prop} {ch:Fin 8→Tr} (ih : ∀ i ts,P ts→P (add (ch i) ts)) : ∀ k,k≤8 → ∀ ts,P ts→P (addK ch k ts)
 | 0,_,ts,h=>by rw [addK_zero];exact h
 | k+1,hk,ts,h=>by rw [addK_succ ch (by omega)];exact ih _ _ (addK_ind ih k (by omega) ts h)
theorem ins_of_mem {t:Tr} {ts:List Tr} (h:t∈ts):ins t ts=ts:=if_pos h
theorem ins_of_not {t:Tr} {ts:List Tr} (h:t ∉ ts):ins t ts=ts++[t]:=if_neg h
theorem ins_prefix (t:Tr) (ts:List Tr):ts <+: ins t ts:=by
 by_cases h:t∈ts
 · rw [ins_of_mem h];exact List.prefix_refl _
 · rw [ins_of_not h];exact List.prefix_append _ _
theorem zJn (t:Tr) (ts:List Tr):t∈ins t ts:=by
 by_cases h:t∈ts
 · rw [ins_of_mem h];exact h
 · rw [ins_of_not h];simp
theorem add_prefix : ∀ (t:Tr) (ts:List Tr),ts <+: add t ts:=by
 intro t
 induction t with
 | uni c=>intro ts;rw [add_uni];exact ins_prefix _ _
 | brick l=>intro ts;rw [add_brick];exact ins_prefix _ _
 | node d ch ih =>
   intro ts;rw [add_node];split
   · exact List.prefix_refl _
   · exact (addK_ind (P:=fun a=>ts <+: a) (fun i a h=>h.trans (ih i a)) 8 (Nat.le_refl _) ts (List.prefix_refl _)).trans (List.prefix_append _ _)
theorem addK_prefix (ch:Fin 8→Tr) (k:Nat) (hk:k≤8) (ts:List Tr):ts <+: addK ch k ts :=
 addK_ind (P:=fun a=>ts <+: a) (fun _i a h=>h.trans (add_prefix _ a)) k hk ts (List.prefix_refl _)
theorem mem_add (t:Tr) (ts:List Tr):t∈add t ts:=by
 cases t with
 | uni c=>rw [add_uni];exact zJn _ _
 | brick l=>rw [add_brick];exact zJn _ _
 | node d ch =>
   rw [add_node];split
   · assumption
   · simp
theorem add_same : ∀ (t:Tr) (ts:List Tr),t∈ts→add t ts=ts:=by
 intro t ts h;cases t with
 | uni c=>rw [add_uni,ins_of_mem h]
 | brick l=>rw [add_brick,ins_of_mem h]
 | node d ch=>rw [add_node,if_pos h]
theorem addK_mem (ch:Fin 8→Tr) (ts:List Tr) : ∀ k,k≤8 → ∀ i:Fin 8,i.val<k→ch i∈addK ch k ts
 | 0,_,i,h=>by omega
 | k + 1, hk, i, h => by
   rw [addK_succ ch (by omega)]
   by_cases e:i.val=k
   · rw [show i=⟨k,by omega⟩ from Fin.ext e]
     exact mem_add _ _
   · exact (add_prefix _ _).subset (addK_mem ch ts k (by omega) i (by omega))
def sz:Tr→Nat
 | .uni _=>1
 | .brick _=>1
 | .node _ ch=>1+(List.ofFn fun i=>sz (ch i)).sum
theorem le_sum {l:List Nat} {x:Nat} (h:x∈l):x≤l.sum:=by
 induction l with
 | nil=>simp at h
 | cons y l ih =>
   simp only [List.sum_cons];rcases List.mem_cons.1 h with rfl | h
   · omega
   · have:=ih h;omega
theorem sz_kid (d:Nat) (ch:Fin 8→Tr) (i:Fin 8):sz (ch i)<sz (.node d ch):=by
 have:sz (ch i)≤(List.ofFn fun i=>sz (ch i)).sum:=le_sum (List.mem_ofFn.2 ⟨i,rfl⟩);simp only [sz];omega
theorem of_mem_ins {x t:Tr} {ts:List Tr} (h:x∈ins t ts):x∈ts∨x=t:=by
 by_cases h':t∈ts
 · rw [ins_of_mem h'] at h;exact .inl h
 · rw [ins_of_not h'] at h;simpa using h
theorem zH7 : ∀ (t:Tr) (ts:List Tr) (x:Tr),x∈add t ts→x∈ts∨x=t∨sz x<sz t:=by
 intro t
 induction t with
 | uni c=>intro ts x h;rw [add_uni] at h;rcases of_mem_ins h with h | h;exact .inl h;exact .inr (.inl h)
 | brick l=>intro ts x h;rw [add_brick] at h;rcases of_mem_ins h with h | h;exact .inl h;exact .inr (.inl h)
 | node d ch ih =>
   intro ts x h;rw [add_node] at h;split at h
   · exact .inl h
   · rcases List.mem_append.1 h with h | h
     · have:=addK_ind (P:=fun a => ∀ x∈a,x∈ts∨sz x<sz (.node d ch)) (fun i a ha x hx=>by
        rcases ih i a x hx with h | rfl | h
        · exact ha x h
        · exact .inr (sz_kid d ch i)
        · exact .inr (Nat.lt_trans h (sz_kid d ch i))) 8 (Nat.le_refl _) ts (fun x hx=>.inl hx) x h
       rcases this with h | h
       · exact .inl h
       · exact .inr (.inr h)
     · simp at h;exact .inr (.inl h)
theorem zFZ {d:Nat} {ch:Fin 8→Tr} {ts:List Tr} (h : .node d ch ∉ ts) (k:Nat) (hk:k≤8) : .node d ch ∉ addK ch k ts:=by
 have:=addK_ind (P:=fun a=>Tr.node d ch ∉ a) (ch:=ch) (fun i a ha hx=>by
  rcases zH7 _ _ _ hx with h | h | h
  · exact ha h
  · have:=sz_kid d ch i;rw [←h] at this;omega
  · have:=sz_kid d ch i;omega) k hk ts h
 exact this
theorem Closed.ins {t:Tr} {ts:List Tr} (h:Closed ts) (hk : ∀ d ch,t = .node d ch → ∀ i,ch i∈ts):Closed (ins t ts):=by
 by_cases hm:t∈ts
 · rw [ins_of_mem hm];exact h
 · rw [ins_of_not hm];refine ⟨?_,fun d ch hc i=>?_⟩
   · rw [List.nodup_append];exact ⟨h.1,by simp,fun a ha b hb=>by simp at hb;subst hb;rintro rfl;exact hm ha⟩
   · rcases List.mem_append.1 hc with hc | hc
     · exact List.mem_append.2 (.inl (h.2 d ch hc i))
     · simp at hc;exact List.mem_append.2 (.inl (hk d ch hc.symm i))
theorem node_add {d:Nat} {ch:Fin 8→Tr} {ts:List Tr} (h:Closed ts):add (.node d ch) ts=Tr.ins (.node d ch) (addK ch 8 ts):=by
 rw [add_node];split
 · rename_i hm;have:addK ch 8 ts=ts:=addK_ind (P:=fun a=>a=ts) (fun i a ha=>by subst ha;exact add_same _ _ (h.2 d ch hm i)) 8 (Nat.le_refl _) ts rfl
   rw [this,ins_of_mem hm]
 · rename_i hm;rw [ins_of_not (zFZ hm 8 (Nat.le_refl _))]
theorem Closed.add : ∀ (t:Tr) {ts:List Tr},Closed ts→Closed (add t ts):=by
 intro t
 induction t with
 | uni c=>intro ts h;rw [add_uni];exact h.ins (fun d ch e=>by cases e)
 | brick l=>intro ts h;rw [add_brick];exact h.ins (fun d ch e=>by cases e)
 | node d ch ih =>
   intro ts h;rw [node_add h]
   exact (addK_ind (P:=Closed) (fun i a ha=>ih i ha) 8 (Nat.le_refl _) ts h).ins (fun d' ch' e i=>by
    injection e with e1 e2;subst e2;exact addK_mem _ ts 8 (Nat.le_refl _) i i.isLt)
theorem Closed.addK {ch:Fin 8→Tr} {ts:List Tr} (h:Closed ts) (k:Nat) (hk:k≤8):Closed (addK ch k ts):=addK_ind (P:=Closed) (fun _i _a ha=>Closed.add _ ha) k hk ts h
open Classical in
theorem inner_add {d:Nat} {ch:Fin 8→Tr} {ts:List Tr} (h:Closed ts) :
 add (mkInner d ch) ts=if mkInner d ch=ch 0∧(∃ c,ch 0 = .uni c) then addK ch 8 ts else Tr.ins (.node d ch) (addK ch 8 ts):=by
 unfold mkInner;split
 · rename_i hc;obtain ⟨⟨c,hc⟩,hall⟩:=hc;rw [if_pos ⟨rfl,c,hc⟩]
   have : ∀ k,k≤7→Tr.addK ch (k+1) ts=Tr.add (ch 0) ts:=by
    intro k
    induction k with
    | zero=>intro _;rw [addK_succ ch (by omega),addK_zero];rfl
    | succ k ih =>
      intro hk;rw [addK_succ ch (by omega),ih (by omega),hall ⟨k+1,by omega⟩]
      exact add_same _ _ (mem_add _ _)
   exact (this 7 (Nat.le_refl _)).symm
 · rename_i hc;rw [if_neg,node_add h];rintro ⟨e1,c,e2⟩;rw [e2] at e1;cases e1
def Fits (most:Int) (ts ts':List Tr):Prop:=ts'=ts∨(ts'.length:Int)≤most
theorem fits_trans {most:Int} {a b c:List Tr} (h1:a <+: b) (h2:b <+: c) (h:Fits most a b) (h':Fits most b c):Fits most a c:=by
 rcases h' with rfl | h'
 · exact h
 · exact .inr h'
theorem not_fits_mono {most:Int} {a b c:List Tr} (h1:a <+: b) (h2:b <+: c) (h : ¬Fits most a b) : ¬Fits most a c:=by
 intro h';apply h;rcases h' with rfl | h'
 · exact .inl (List.IsPrefix.eq_of_length_le h1 h2.length_le).symm
 · have:=h2.length_le;exact .inr (by omega)
theorem not_fits_later {most:Int} {a b c:List Tr} (h1:a <+: b) (h2:b <+: c) (h : ¬Fits most b c) : ¬Fits most a c:=by
 intro h';apply h;rcases h' with rfl | h'
 · exact .inl (List.IsPrefix.eq_of_length_le h2 h1.length_le).symm
 · exact .inr h'
theorem addK_one {ch:Fin 8→Tr} {ts:List Tr} (j:Fin 8) (h : ∀ i,i ≠ j→ch i∈ts):addK ch 8 ts=Tr.add (ch j) ts:=by
 have key : ∀ k,k≤8→addK ch k ts=if j.val<k then Tr.add (ch j) ts else ts:=by
  intro k
  induction k with
  | zero=>intro _;rw [addK_zero,if_neg (by omega)]
  | succ k ih =>
    intro hk;rw [addK_succ ch (by omega),ih (by omega)]
    by_cases e:j.val=k
    · subst e;rw [if_neg (by omega),if_pos (by omega)]
    · have hne:(⟨k,by omega⟩:Fin 8) ≠ j:=fun e'=>e (by rw [←e'])
      by_cases hlt:j.val<k
      · rw [if_pos hlt,if_pos (by omega)]
        exact add_same _ _ ((add_prefix _ _).subset (h _ hne))
      · rw [if_neg hlt,if_neg (by omega)]
        exact add_same _ _ (h _ hne)
 rw [key 8 (Nat.le_refl _),if_pos j.isLt]
def enc:Tr→List Int
 | .uni c=>[117,c]
 | .brick l=>98::l
 | .node d ch=>110::(d:Int)::(List.ofFn fun i=>enc (ch i)).flatten
def WF:Tr→Prop
 | .uni c=>0≤c∧c≤255
 | .brick l=>l.length=64 ∧ ∀ x∈l,0≤x∧x≤255
 | .node d ch=>d≤255 ∧ ∀ i,WF (ch i)
theorem zHL {a b:Fin 8→Tr} : ∀ (n k:Nat) (_hn:n+k=8),(∀ i,∀ t' r r',enc (a i)++r=enc t'++r'→WF t'→a i=t'∧r=r')→(∀ i,WF (b i)) →
 ∀ r r',((List.ofFn fun i=>enc (a i)).drop k).flatten++r=((List.ofFn fun i=>enc (b i)).drop k).flatten++r'→(∀ i:Fin 8,k≤i.val→a i=b i)∧r=r'
 | 0, k, hn, _, _, r, r', h => by
   rw [List.drop_eq_nil_of_le (by simp;omega),List.drop_eq_nil_of_le (by simp;omega)] at h
   exact ⟨fun i hi=>by omega,by simpa using h⟩
 | n + 1, k, hn, ha, hb, r, r', h => by
   have hk:k<8:=by omega
   rw [List.drop_eq_getElem_cons (l:=List.ofFn fun i=>enc (a i)) (i:=k) (by simpa using hk),List.drop_eq_getElem_cons (l:=List.ofFn fun i=>enc (b i)) (i:=k) (by simpa using hk)] at h
   simp only [List.getElem_ofFn,List.flatten_cons,List.append_assoc] at h;obtain ⟨h1,h2⟩:=ha ⟨k,hk⟩ _ _ _ h (hb ⟨k,hk⟩);obtain ⟨h3,h4⟩:=zHL n (k+1) (by omega) ha hb r r' h2
   refine ⟨fun i hi=>?_,h4⟩;by_cases e:k=i.val
   · obtain rfl:i=⟨k,hk⟩:=Fin.ext e.symm;exact h1
   · exact h3 i (by omega)
theorem zN5 : ∀ (t t':Tr) (r r':List Int),WF t→WF t'→enc t++r=enc t'++r'→t=t'∧r=r':=by
 intro t
 induction t with
 | uni c =>
   intro t' r r' h h' e;cases t' with
   | uni c'=>simp [enc] at e;simp [e]
   | brick l=>simp [enc] at e
   | node d ch=>simp [enc] at e
 | brick l =>
   intro t' r r' h h' e;cases t' with
   | uni c'=>simp [enc] at e
   | brick l' =>
     simp [enc] at e;have:=List.append_inj e (by rw [h.1,h'.1])
     simp [this]
   | node d ch=>simp [enc] at e
 | node d ch ih =>
   intro t' r r' h h' e;cases t' with
   | uni c'=>simp [enc] at e
   | brick l'=>simp [enc] at e
   | node d' ch' =>
     simp only [enc,List.cons_append,List.cons.injEq,true_and] at e;obtain ⟨e1,e2⟩:=e;obtain ⟨h1,h2⟩:=zHL 8 0 rfl (fun i t' r r' e hw=>ih i t' r r' (h.2 i) hw e) h'.2 r r' (by simpa using e2)
     obtain rfl:d=d':=by omega
     obtain rfl:ch=ch':=funext fun i=>h1 i (Nat.zero_le _);exact ⟨rfl,h2⟩
theorem enc_eq {t t':Tr} (h:WF t) (h':WF t'):enc t=enc t' ↔ t=t' :=
 ⟨fun e=>(zN5 t t' [] [] h h' (by simpa using e)).1,fun e=>by rw [e]⟩
end Tr
end Oct
end Go.Proofs.YtfcbajmjaifjlaaGreatDoor
namespace Go.Proofs.YtfcbajmjaifjlaaGreatDoor
open Go.RowKit Go.Sort Go.Maps
open Oct
open Classical in
noncomputable def idT (ts:List Tr) (t:Tr):Nat:=ts.idxOf t
theorem zEO {ts:List Tr} {t:Tr} (h:t∈ts):idT ts t<ts.length:=by
 classical
 unfold idT;exact List.idxOf_lt_length_of_mem h
theorem zB1 {ts:List Tr} {t:Tr} (h:t∈ts):ts[idT ts t]? = some t:=by
 classical
 have hl:ts.idxOf t<ts.length:=List.idxOf_lt_length_of_mem h;have e:ts[ts.idxOf t]? = some t:=by rw [List.getElem?_eq_getElem hl,List.getElem_idxOf hl]
 exact e
theorem zx {ts:List Tr} {t t':Tr} (h:t∈ts) (h':t'∈ts) (e:idT ts t=idT ts t'):t=t':=by
 have h1:=zB1 h;rw [e,zB1 h'] at h1;exact (Option.some.inj h1).symm
theorem zi {ts ts':List Tr} (hp:ts <+: ts') {t:Tr} (h:t∈ts):idT ts' t=idT ts t:=by
 classical
 obtain ⟨r,rfl⟩:=hp;unfold idT;rw [List.idxOf_append,if_pos h]
theorem zJ0 {ts:List Tr} {t:Tr} (h:t ∉ ts):idT (ts++[t]) t=ts.length:=by
 classical
 unfold idT;rw [List.idxOf_append,if_neg h];simp
noncomputable def zl (ts:List Tr):Tr→Value
 | .uni c=>zAW 1 c ByteArray.empty 0 0 0 0 0 0 0 0 0
 | .brick l=>zAW 2 0 (strOfNums l) 2 0 0 0 0 0 0 0 0
 | .node d ch=>zAW 3 0 ByteArray.empty d (idT ts (ch 0)) (idT ts (ch 1)) (idT ts (ch 2)) (idT ts (ch 3)) (idT ts (ch 4)) (idT ts (ch 5)) (idT ts (ch 6)) (idT ts (ch 7))
def Leans (ts:List Tr) (t:Tr):Prop := ∀ d ch,t = .node d ch → ∀ i,ch i∈ts
theorem zr {ts ts':List Tr} (hp:ts <+: ts') {t:Tr} (h:Leans ts t):zl ts' t=zl ts t:=by
 cases t with
 | uni c=>rfl
 | brick l=>rfl
 | node d ch =>
   have e : ∀ i,idT ts' (ch i)=idT ts (ch i):=fun i=>zi hp (h d ch rfl i);unfold zl;simp only [e]
theorem fin8 {P:Fin 8→Prop} (h0:P 0) (h1:P 1) (h2:P 2) (h3:P 3) (h4:P 4) (h5:P 5) (h6:P 6) (h7:P 7) : ∀ i,P i:=by
 intro i
 match i with
 | 0=>exact h0
 | 1=>exact h1
 | 2=>exact h2
 | 3=>exact h3
 | 4=>exact h4
 | 5=>exact h5
 | 6=>exact h6
 | 7=>exact h7
structure Bytes (t:Tr):Prop where
 bricks : ∀ l,t = .brick l→l.length=64 ∧ ∀ x∈l,0≤x∧x≤255
 unis : ∀ c,t = .uni c→0≤c∧c≤255
 nodes : ∀ d ch,t = .node d ch→d≤255
theorem Bytes.uni {c:Int} (h:0≤c∧c≤255):Bytes (.uni c):=⟨fun l e=>(by cases e),fun c' e=>(by injection e with e;exact e ▸ h),fun d ch e=>(by cases e)⟩
theorem Bytes.brick {l:List Int} (h:l.length=64 ∧ ∀ x∈l,0≤x∧x≤255):Bytes (.brick l):=⟨fun l' e=>(by injection e with e;exact e ▸ h),fun c e=>(by cases e),fun d ch e=>(by cases e)⟩
theorem Bytes.node {d:Nat} (h:d≤255) (ch:Fin 8→Tr):Bytes (.node d ch):=⟨fun l e=>(by cases e),fun c e=>(by cases e),fun d' ch' e=>(by injection e with e _;exact e ▸ h)⟩
theorem zCA : ∀ {l l':List Int},(∀ x∈l,0≤x∧x≤255)→(∀ x∈l',0≤x∧x≤255)→strOfNums l=strOfNums l'→l=l':=by
 intro l l' h h' e
 have e1:l.map (fun n=>UInt8.ofNat n.toNat)=l'.map (fun n=>UInt8.ofNat n.toNat):=by
  rw [←strOfNums_data,←strOfNums_data,e]
 clear e
 induction l generalizing l' with
 | nil => cases l' with
   | nil=>rfl
   | cons y r=>simp at e1
 | cons x l ih => cases l' with
   | nil=>simp at e1
   | cons y r =>
     simp only [List.map_cons,List.cons.injEq] at e1;have hx:=h x (by simp)
     have hy:=h' y (by simp)
     have e2:=congrArg UInt8.toNat e1.1;simp only [UInt8.toNat_ofNat'] at e2;have:x=y:=by omega
     rw [this,ih (fun z hz=>h z (by simp [hz])) (fun z hz=>h' z (by simp [hz])) e1.2]
theorem zDb {ts:List Tr} {t t':Tr} (h:Leans ts t) (h':Leans ts t') (hb:Bytes t) (hb':Bytes t') (e:zl ts t=zl ts t'):t=t':=by
 cases t with
 | uni c => cases t' with
   | uni c'=>simp [zl,zAW] at e;rw [e]
   | brick l=>simp [zl,zAW] at e
   | node d ch=>simp [zl,zAW] at e
 | brick l => cases t' with
   | uni c'=>simp [zl,zAW] at e
   | brick l'=>simp [zl,zAW] at e;rw [zCA (hb.bricks l rfl).2 (hb'.bricks l' rfl).2 e]
   | node d ch=>simp [zl,zAW] at e
 | node d ch => cases t' with
   | uni c'=>simp [zl,zAW] at e
   | brick l'=>simp [zl,zAW] at e
   | node d' ch' =>
     simp only [zl,zAW,Value.agg.injEq,Array.mk.injEq,List.cons.injEq,Value.int.injEq,true_and,and_true,Int.natCast_inj] at e;obtain ⟨e1,e2⟩:=e;subst e1
     have:ch=ch':=funext (fin8 (P:=fun i=>ch i=ch' i) (zx (h _ _ rfl _) (h' _ _ rfl _) e2.1) (zx (h _ _ rfl _) (h' _ _ rfl _) e2.2.1) (zx (h _ _ rfl _) (h' _ _ rfl _) e2.2.2.1) (zx (h _ _ rfl _) (h' _ _ rfl _) e2.2.2.2.1)
      (zx (h _ _ rfl _) (h' _ _ rfl _) e2.2.2.2.2.1) (zx (h _ _ rfl _) (h' _ _ rfl _) e2.2.2.2.2.2.1) (zx (h _ _ rfl _) (h' _ _ rfl _) e2.2.2.2.2.2.2.1) (zx (h _ _ rfl _) (h' _ _ rfl _) e2.2.2.2.2.2.2.2))
     rw [this]
end Go.Proofs.YtfcbajmjaifjlaaGreatDoor
namespace Go.Proofs.YtfcbajmjaifjlaaGreatDoor
open Go.RowKit Go.Sort Go.Maps
open Oct
structure Good (ts:List Tr):Prop where
 closed:Tr.Closed ts
 bytes : ∀ t∈ts,Bytes t
theorem Good.leans {ts:List Tr} (h:Good ts) {t:Tr} (ht:t∈ts):Leans ts t:=fun d ch e i=>h.closed.2 d ch (e ▸ ht) i
theorem Leans.later {ts ts':List Tr} (hp:ts <+: ts') {t:Tr} (h:Leans ts t):Leans ts' t:=fun d ch e i=>hp.subset (h d ch e i)
open Classical in
noncomputable def zEN (ts:List Tr) (v:Value):Option Int:=if h : ∃ t,t∈ts∧zl ts t=v then some (idT ts h.choose:Int) else none
theorem zEp {ts:List Tr} (hG:Good ts) {t:Tr} (ht:t∈ts):zEN ts (zl ts t)=some (idT ts t:Int):=by
 have h : ∃ t',t'∈ts∧zl ts t'=zl ts t:=⟨t,ht,rfl⟩;unfold zEN;rw [dif_pos h];have hs:=h.choose_spec;have e:h.choose=t:=zDb (hG.leans hs.1) (hG.leans ht) (hG.bytes _ hs.1) (hG.bytes _ ht) hs.2;rw [e]
theorem zEo {ts:List Tr} (hG:Good ts) {t:Tr} (ht:t ∉ ts) (hl:Leans ts t) (hb:Bytes t):zEN ts (zl ts t)=none:=by
 unfold zEN;rw [dif_neg];rintro ⟨t',h1,h2⟩;exact ht (zDb (hG.leans h1) hl (hG.bytes _ h1) hb h2 ▸ h1)
open Classical in
theorem zHC {ts:List Tr} (hG:Good ts) {t:Tr} (ht:t ∉ ts) (hl:Leans ts t) (hb:Bytes t) (v:Value) :
 zEN (ts++[t]) v=if v=zl ts t then some (ts.length:Int) else zEN ts v:=by
 have hp:ts <+: ts++[t]:=List.prefix_append _ _
 have hl2 : ∀ t'∈ts++[t],Leans (ts++[t]) t':=fun t' h=>by
  rcases List.mem_append.1 h with h | h
  · exact (hG.leans h).later hp
  · rw [List.mem_singleton.1 h];exact hl.later hp
 have hb2 : ∀ t'∈ts++[t],Bytes t':=fun t' h=>by
  rcases List.mem_append.1 h with h | h
  · exact hG.bytes _ h
  · rw [List.mem_singleton.1 h];exact hb
 have uniq : ∀ x,x∈ts++[t]→zl (ts++[t]) x=v→zEN (ts++[t]) v=some (idT (ts++[t]) x:Int):=by
  intro x hx e;have h : ∃ t',t'∈ts++[t]∧zl (ts++[t]) t'=v:=⟨x,hx,e⟩;unfold zEN;rw [dif_pos h];have hs:=h.choose_spec;rw [zDb (hl2 _ hs.1) (hl2 _ hx) (hb2 _ hs.1) (hb2 _ hx) (hs.2.trans e.symm)]
 by_cases e:v=zl ts t
 · rw [if_pos e,uniq t (by simp) (by rw [zr hp hl,e]),zJ0 ht]
 · rw [if_neg e];by_cases h : ∃ t',t'∈ts∧zl ts t'=v
   · obtain ⟨x,hx,hxe⟩:=h;rw [uniq x (by simp [hx]) (by rw [zr hp (hG.leans hx)];exact hxe),zi hp hx,←hxe,zEp hG hx]
   · have h2 : ¬ ∃ t',t'∈ts++[t]∧zl (ts++[t]) t'=v:=by
      rintro ⟨x,hx,hxe⟩;rcases List.mem_append.1 hx with hx | hx
      · exact h ⟨x,hx,by rw [←zr hp (hG.leans hx)];exact hxe⟩
      · rw [List.mem_singleton.1 hx,zr hp hl] at hxe;exact e hxe.symm
     unfold zEN;rw [dif_neg h,dif_neg h2]
theorem Good.add {ts:List Tr} (hG:Good ts) {t:Tr} (ht:t ∉ ts) (hl:Leans ts t) (hb:Bytes t):Good (ts++[t]):=by
 refine ⟨⟨?_,fun d ch h i=>?_⟩,fun x h=>?_⟩
 · rw [List.nodup_append];exact ⟨hG.closed.1,by simp,fun a ha b hb' e=>by rw [List.mem_singleton.1 hb'] at e;exact ht (e ▸ ha)⟩
 · rcases List.mem_append.1 h with h | h
   · exact List.mem_append_left _ (hG.closed.2 d ch h i)
   · exact List.mem_append_left _ (hl d ch (List.mem_singleton.1 h).symm i)
 · rcases List.mem_append.1 h with h | h
   · exact hG.bytes _ h
   · rw [List.mem_singleton.1 h];exact hb
noncomputable def zIs (ts:List Tr):List Value:=ts.flatMap fun t=>(zl ts t).cells.toList
theorem zG6 {ts:List Tr} (hG:Good ts) {t:Tr} (hl:Leans ts t):zIs (ts++[t])=zIs ts++(zl ts t).cells.toList:=by
 have hp:ts <+: ts++[t]:=List.prefix_append _ _;unfold zIs;rw [List.flatMap_append,List.flatMap_cons,List.flatMap_nil,List.append_nil,zr hp hl]
 congr 1
 have key : ∀ l:List Tr,(∀ x∈l,x∈ts)→l.flatMap (fun t'=>(zl (ts++[t]) t').cells.toList)=l.flatMap (fun t'=>(zl ts t').cells.toList):=by
  intro l
  induction l with
  | nil=>intro _;rfl
  | cons x r ih =>
    intro h;rw [List.flatMap_cons,List.flatMap_cons,ih (fun y hy=>h y (by simp [hy])),zr hp (hG.leans (h x (by simp)))]
 exact key ts fun x hx=>hx
def StoreIs (w:World) (Far:Nat→Prop) (sb:Nat) (most:Int) (ts:List Tr):Prop :=
 ∃ mb nv,Bk w sb #[most,nv,.map (some mb)] 80∧w.ownsRow 0 101 12 nv ts.length (zIs ts)∧MapFn w mb ts.length (zEN ts) ∧ ¬Far sb ∧ ¬Far mb∧(∀ g,nv.ownBlock=some g → ¬Far g)∧sb ≠ mb∧nv.ownBlock ≠ some sb∧nv.ownBlock ≠ some mb
theorem zJ {w w':World} (hb:Below w.heap.size w w'):w.grownBy w' none:=⟨hb.os,hb.tape,hb.output,hb.size,fun k hk _=>hb.block k hk⟩
theorem StoreIs.later {w w':World} {Far:Nat→Prop} {sb:Nat} {most:Int} {ts:List Tr} (h:StoreIs w Far sb most ts) (hb:Below w.heap.size w w'):StoreIs w' Far sb most ts:=by
 obtain ⟨mb,nv,h1,h2,h3,h4⟩:=h;have hg:=zJ hb;exact ⟨mb,nv,h1.later hb,World.ownsRow.kept h2 hg (by cases nv.ownBlock <;> simp),h3.kept hg (by simp),h4⟩
theorem StoreIs.widen {w:World} {Far Far':Nat→Prop} {sb:Nat} {most:Int} {ts:List Tr} (h:StoreIs w Far sb most ts) (hf : ∀ k,Far' k→Far k∨w.heap.size≤k):StoreIs w Far' sb most ts:=by
 obtain ⟨mb,nv,h1,h2,h3,h4,h5,h6,h7⟩:=h;have l1:=h1.lt;have l2:=h3.lt;refine ⟨mb,nv,h1,h2,h3,fun h=>?_,fun h=>?_,fun g hg h=>?_,h7⟩
 · rcases hf _ h with h | h
   · exact h4 h
   · omega
 · rcases hf _ h with h | h
   · exact h5 h
   · omega
 · rcases hf _ h with h | h
   · exact h6 g hg h
   · have:=(World.ownsRow.lt h2 g hg).2;omega
structure Keeps (Far:Nat→Prop) (w w':World):Prop where
 os:w'.os=w.os
 tape:w'.tape=w.tape
 output:w'.output=w.output
 size:w.heap.size≤w'.heap.size
 block : ∀ k,Far k→k<w.heap.size→w'.heap[k]? = w.heap[k]?
theorem Keeps.refl (Far:Nat→Prop) (w:World):Keeps Far w w:=⟨rfl,rfl,rfl,Nat.le_refl _,fun _ _ _=>rfl⟩
theorem Keeps.trans {Far:Nat→Prop} {a b c:World} (h:Keeps Far a b) (h':Keeps Far b c):Keeps Far a c :=
 ⟨h'.os.trans h.os,h'.tape.trans h.tape,h'.output.trans h.output,Nat.le_trans h.size h'.size,fun k hk hl=>(h'.block k hk (Nat.lt_of_lt_of_le hl h.size)).trans (h.block k hk hl)⟩
theorem Keeps.below {Far:Nat→Prop} {a b:World} (h:Below a.heap.size a b):Keeps Far a b:=⟨h.os,h.tape,h.output,h.size,fun k _ hl=>h.block k hl⟩
theorem Keeps.grown {Far:Nat→Prop} {a b:World} {row:Option Nat} (h:a.grownBy b row) (hr : ∀ g,row=some g → ¬Far g):Keeps Far a b :=
 ⟨h.os,h.tape,h.output,h.size,fun k hk hl=>h.block k hl (fun e=>hr k e.symm hk)⟩
theorem Keeps.narrow {Far Far':Nat→Prop} {a b:World} (h:Keeps Far a b) (hf : ∀ k,Far' k→k<a.heap.size→Far k):Keeps Far' a b:=⟨h.os,h.tape,h.output,h.size,fun k hk hl=>h.block k (hf k hk hl) hl⟩
theorem Bk.far {w w':World} {Far:Nat→Prop} {b:Nat} {vs:Array Value} {t:TypeId} (h:Bk w b vs t) (hk:Keeps Far w w') (hf:Far b):Bk w' b vs t:=(hk.block b hf h.lt).trans h
end Go.Proofs.YtfcbajmjaifjlaaGreatDoor
end
