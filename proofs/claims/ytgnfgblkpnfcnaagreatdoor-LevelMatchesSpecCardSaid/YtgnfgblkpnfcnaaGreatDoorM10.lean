/- RegT, Trm, Whl, Grd1, Sl: joined by program, for one claim. -/
import Derived.Test.YtgnfgblkpnfcnaaGreatDoorM9
import Derived.Deep.LoopGhost
import Derived.Deep.QuietTactic
set_option maxHeartbeats 1000000
set_option maxRecDepth 100000
set_option linter.unusedVariables false
set_option linter.unusedSimpArgs false
section
namespace Go.Proofs.YtgnfgblkpnfcnaaGreatDoor
open Go.Sort Go.RowKit
def zNA (md:Region.Mode) (l:List Oper) (n:Nat):Bool :=
 ((List.range n).all fun k=>Region.waitsFor md l.toArray n k || (List.range n).any fun m=>decide (k<m) && Region.waitsFor md l.toArray m k) && (List.range l.length).all fun t=>decide (t≤n) || Region.waitsFor md l.toArray t (t - 1)
def zE8 (l:List Oper) (n:Nat):Bool :=
 decide (n<l.length) && zBV .any l n && zNA .any l n && Region.lexB .any (l.take n).toArray && Region.seqB .any l.toArray (l.length - n) n (Array.replicate n true++Array.replicate (l.length - n) false)
section
variable {P:Program} {md:Region.Mode} {l:List Oper} {n:Nat} {C:World→Prop}
def zAa (md:Region.Mode) (l:List Oper) (s:Array Bool):Prop := ∀ m k,s.getD m false=true→Region.waitsFor md l.toArray m k=true→s.getD k false=true
theorem zIX {s:Array Bool} (hs:s.size=n) {g:Nat} (hsh:zAa md l s) (ht:zNA md l n=true) (h:n∈Region.ready md l.toArray (s++Array.replicate g false)) : ∀ (d k:Nat),n - k≤d→k<n→s.getD k false=false→False
 | 0,k,h1,h2,_=>by omega
 | d + 1, k, hd, hk, hun => by
   obtain ⟨h1,o,ho,h2⟩:=mem_ready.1 h;have ht':=ht;simp only [zNA,Bool.and_eq_true] at ht';have h3:=List.all_eq_true.1 ht'.1 k (List.mem_range.2 hk);simp only [Bool.or_eq_true] at h3;rcases h3 with h3 | h3
   · obtain ⟨o',ho',e,he,hbi,hon⟩:=Region.waitsFor_spec h3;obtain rfl:o'=o:=Option.some.inj (ho'.symm.trans ho);have:=h2 e he hbi;rw [hon,zBJ hs hk,hun] at this;cases this
   · obtain ⟨m,hm,h4⟩:=List.any_eq_true.1 h3;simp only [Bool.and_eq_true,decide_eq_true_eq] at h4;have hmn:=List.mem_range.1 hm;refine zIX hs hsh ht h d m (by omega) hmn ?_
     cases hx:s.getD m false with
     | false=>rfl
     | true=>have:=hsh m k hx h4.2;rw [hun] at this;cases this
theorem zKL {s:Array Bool} (hs:s.size=n) (hsh:zAa md l s) {g i k:Nat} (hk:k<n) (hun:s.getD k false=false) (ht:zNA md l n=true) (h:i∈Region.ready md l.toArray (s++Array.replicate g false)):i<n:=by
 obtain ⟨h1,o,ho,h2⟩:=mem_ready.1 h;rcases Nat.lt_or_ge i n with hlt | hge
 · exact hlt
 · exfalso;have hil:i<l.length:=by have:=(Array.getElem?_eq_some_iff.1 ho).1;simpa using this
   by_cases hin:i=n
   · subst hin;exact zIX hs hsh ht h (i - k) k (Nat.le_refl _) hk hun
   · have ht':=ht;simp only [zNA,Bool.and_eq_true] at ht';have h3:=List.all_eq_true.1 ht'.2 i (List.mem_range.2 hil);simp only [Bool.or_eq_true,decide_eq_true_eq] at h3;rcases h3 with h3 | h3
     · omega
     · obtain ⟨o',ho',e,he,hbi,hon⟩:=Region.waitsFor_spec h3;obtain rfl:o'=o:=Option.some.inj (ho'.symm.trans ho);have:=h2 e he hbi;rw [hon,zBL hs (by omega)] at this
       cases this
theorem zL7 {s:Array Bool} {i:Nat} (hsh:zAa md l s) (hi:i∈Region.ready md (l.take n).toArray s) (hin:i<n):zAa md l (s.setIfInBounds i true):=by
 intro m k hm hw
 have keep : ∀ j,s.getD j false=true→(s.setIfInBounds i true).getD j false=true:=by
  intro j hj;simp only [Array.getD_eq_getD_getElem?,Array.getElem?_setIfInBounds] at hj ⊢;split
  · split
    · rfl
    · rename_i h;rw [Array.getElem?_eq_none (by omega)] at hj;exact hj
  · exact hj
 by_cases e:i=m
 · subst e;obtain ⟨_,o,ho,h2⟩:=mem_ready.1 hi;obtain ⟨o',ho',e,he,hbi,hon⟩:=Region.waitsFor_spec hw;rw [zNC hin] at ho;obtain rfl:o'=o:=Option.some.inj (ho'.symm.trans ho);exact keep k (hon ▸ h2 e he hbi)
 · refine keep k (hsh m k ?_ hw);simpa [Array.getD_eq_getD_getElem?,Array.getElem?_setIfInBounds,e] using hm
theorem zOF {Qa:Act→Prop} {Q:Exit→Act→World→Prop} {g:Nat} (hn:n≤l.length) (hb:zBV md l n=true) (ht:zNA md l n=true)
 (hend : ∀ a w,C w→Qa a→wpAny P md l.toArray Q g (Array.replicate n true++Array.replicate g false) a w) :
 ∀ (f : Nat) (s : Array Bool) (a : Act) (w : World), s.size = n → zAa md l s → unl s = f → C w → wpAnyQ P md (l.take n).toArray C Qa f s a →
   wpAny P md l.toArray Q (f+g) (s++Array.replicate g false) a w
 | 0, s, a, w, hs, _, hu, hw, h => by
   rw [Nat.zero_add,zNp hu,hs];exact hend a w hw h.2
 | f + 1, s, a, w, hs, hsh, hu, hw, h => by
   obtain ⟨k,hk,hun⟩:=zNn (s:=s) (by omega)
   rw [show f+1+g=(f+g)+1 by omega]
   refine ⟨fun h0=>?_,fun i hi=>?_⟩
   · obtain ⟨i,hi⟩:=zKN (g:=g) hs hn hb (k+1) k (by omega) (by omega) hun
     rw [h0] at hi;cases hi
   · have hin:=zKL hs hsh (by omega:k<n) hun ht hi
     have hr:=zKJ hs hin hb hi;have hq:=h.2 i hr;obtain ⟨hiu,o,ho,_⟩:=mem_ready.1 hr;have ho':l.toArray[i]? = some o:=by rw [←zNC hin];exact ho
     have step : ∀ a' w',C w'→wpAnyQ P md (l.take n).toArray C Qa f (s.setIfInBounds i true) a'→wpAny P md l.toArray Q (f+g) ((s++Array.replicate g false).setIfInBounds i true) a' w':=by
      intro a' w' hw' h';rw [zBK (by omega)]
      refine zOF hn hb ht hend f _ a' w' (by simpa using hs) (zL7 hsh hr hin) ?_ hw' h'
      have:=zNo (s:=s) (by omega) hiu
      omega
     have hq':qOp P l.toArray C i (wpAnyQ P md (l.take n).toArray C Qa f (s.setIfInBounds i true)) a:=by
      unfold qOp at hq ⊢;simp only [ho] at hq;simp only [ho'];rwa [zN3 hb hin ho'] at hq
     exact wpOp_of_qOp hw step hq'
theorem zOT {id:Nat} {Q:Exit→Act→World→Prop} {a:Act} {w:World} (n:Nat) (hm:P.follows .mixedOrders=true) (hB:zE8 l n=true) (hC:C { w with drawn:=w.drawn+1 })
 (h:wpQuiet P (l.take n).toArray C (fun a' => ∀ w',C w'→wpList P l.toArray Q (l.drop n) a' w') (l.take n) a):(Code.region id l.toArray true).wp P Q a w:=by
 simp only [zE8,Bool.and_eq_true,decide_eq_true_eq] at hB;obtain ⟨⟨⟨⟨hn,hb⟩,ht⟩,hlex⟩,hseq⟩:=hB;simp only [Region.lexB,Bool.and_eq_true] at hlex;refine wp_region_any hm ?_;have hsz:(l.take n).toArray.size=n:=by simp;omega
 have hq:=wpAnyQ_lex (P:=P) (C:=C) (md:=.any) hlex.1 (l.take n) 0 (Array.replicate n false) a (by simp) (by have:=hlex.2;rw [hsz] at this;simpa [show (l.take n).length=n by simp;omega] using this) h
 rw [show (l.take n).length=n by simp;omega] at hq
 have:=zOF (g:=l.length - n) (Q:=Q) (md:=.any) (by omega) hb ht (fun a w hw hQa=>by
  have:=wpAny_of_seq (P:=P) (md:=.any) (ops:=l.toArray) (Q':=Q) (l.drop n) n (Array.replicate n true++Array.replicate (l.length - n) false) a w (fun j=>by simp [List.getElem?_drop]) (by simpa using hseq) (hQa w hw)
  simpa using this) n (Array.replicate n false) a _ (by simp) (fun m k h=>by
   simp only [Array.getD_eq_getD_getElem?,Array.getElem?_replicate] at h;split at h <;> simp at h) (by simp [unl]) hC hq
 have e:Array.replicate n false++Array.replicate (l.length - n) false=Array.replicate l.toArray.size false:=by
  rw [Array.replicate_append_replicate];congr 1;simp;omega
 rw [e,show n+(l.length - n)=l.toArray.size by simp;omega] at this
 exact this
theorem zAL {id:Nat} {Q:Exit→Act→World→Prop} {a:Act} {w:World} (n:Nat) (hm:P.follows .mixedOrders=true) (hB:zE8 l n=true)
 (h:wpQuiet P (l.take n).toArray (fun w' => ∃ p:Regrown,w'=grow (redrawn w p.d) p.os) (fun a' => ∀ w',(∃ p:Regrown,w'=grow (redrawn w p.d) p.os)→wpList P l.toArray Q (l.drop n) a' w') (l.take n) a) :
 (Code.region id l.toArray true).wp P Q a w :=
 zOT (C:=fun w' => ∃ p:Regrown,w'=grow (redrawn w p.d) p.os) n hm hB ⟨⟨w.drawn+1,#[]⟩,by rw [grow_empty];rfl⟩ h
end
end Go.Proofs.YtgnfgblkpnfcnaaGreatDoor
namespace Go.Proofs.YtgnfgblkpnfcnaaGreatDoor
open Go.RowKit Go.Sort Go.Maps
open Oct
theorem zIR {ts:List Tr} {t:Tr} (hlen:ts.length≤1000000000000) (hle:Leans ts t) (hw:Bytes t) : ∃ kl,keyOf Tryz.prog 111 (zh ts t)=some kl:=by
 cases t with
 | uni c=>exact zFz _ _ _ _ _ _ _ _ _ _ _ _ (by simp [maxLen]) (by intro y hy;have:=hw.unis c rfl;simp only [List.mem_cons,List.not_mem_nil,or_false] at hy;exact WalkArith.wf_i64 (by omega))
 | brick l=>exact zFz _ _ _ _ _ _ _ _ _ _ _ _ (by rw [strOfNums_size,(hw.bricks l rfl).1];simp [maxLen]) (by intro y hy;simp only [List.mem_cons,List.not_mem_nil,or_false] at hy;exact WalkArith.wf_i64 (by omega))
 | node d ch =>
   have hi:=fun i=>zFD (hle d ch rfl i);have i0:=hi 0;have i1:=hi 1;have i2:=hi 2;have i3:=hi 3;have i4:=hi 4;have i5:=hi 5;have i6:=hi 6;have i7:=hi 7;have hd:=hw.nodes d ch rfl;refine zFz _ _ _ _ _ _ _ _ _ _ _ _ (by simp [maxLen]) ?_
   intro y hy;simp only [List.mem_cons,List.not_mem_nil,or_false] at hy;rcases hy with rfl | rfl | rfl | rfl | rfl | rfl | rfl | rfl | rfl | rfl | rfl <;> exact WalkArith.wf_i64 (by omega)
theorem zOP {P:Program} {w w':World} {ops:Array Oper} {rest:List Oper} {o:Oper} {a:Act} {Q:Exit→Act→World→Prop} (hgd:o.guard=none) (x y:Operand) (tm tk:TypeId)
 (ho:o.op = .call { callee:=.builtin .delete,args:=#[x,y],argTypes:=#[tm,tk] }) (m key u:Value) (hx:a.eval x=m) (hy:a.eval y=key)
 (hrun:(Builtin.delete_ #[tm,tk] o.type #[m,key]).run P w = .ok u w') (h:wpList P ops Q rest (a.put o.dst u) w'):wpList P ops Q (o::rest) a w:=by
 refine wpList_plain hgd fun K hK=>?_;unfold Oper.wp execOp;simp only [ho,resolve,invoke,builtin,Sem.run_bind,Sem.run_pure,Result.andThen_ok,List.map_toArray,List.map_cons,List.map_nil,hx,hy,hrun];exact hK _ _ h
theorem zJB {w:World} {B g k cap:Nat} {e:TypeId} {sz:Nat} {xs ys:List Value} (h:w.ownsRow B e sz (.slice (some ⟨g,0,none⟩) (k+1) cap) (k+1) (xs++ys)) (hx:xs.length=k * sz):w.ownsRow B e sz (.slice (some ⟨g,0,none⟩) k cap) k xs:=by
 refine ⟨hx,.inr ?_⟩;rcases h.2 with ⟨h1,_⟩ | ⟨g',cap',cur,h1,h2,h3,h4,h5,h6,h7⟩
 · cases h1
 · injection h1 with e1 e2 e3;injection e1 with e1;injection e1 with e1;subst e1 e3;refine ⟨g,cap,cur,rfl,h2,h3,by omega,h5,h6,?_⟩
   have:=congrArg (List.take (k * sz)) h7;rw [List.take_take,Nat.min_eq_left (Nat.mul_le_mul_right _ (Nat.le_succ k)),←hx,List.take_left] at this;rw [hx] at this;exact this
theorem zLZ (ts:List Tr):(zLX ts).length=ts.length * 12:=by
 unfold zLX
 have key : ∀ l:List Tr,(l.flatMap fun t=>(zh ts t).cells.toList).length=l.length * 12:=by
  intro l
  induction l with
  | nil=>rfl
  | cons x r ih=>rw [List.flatMap_cons,List.length_append,ih,zIS,List.length_cons];omega
 exact key ts
theorem zGN {init:List Tr} {t:Tr} (hG:Good (init++[t])):Leans init t∧t ∉ init∧Bytes t:=by
 refine ⟨fun d ch h i=>?_,fun h=>?_,hG.bytes t (by simp)⟩
 · have:=hG.closed.2 d ch (by simp [h]) i
   rcases List.mem_append.1 this with h1 | h1
   · exact h1
   · have h2:=Tr.sz_kid d ch i;rw [List.mem_singleton.1 h1,h] at h2;omega
 · have:=hG.closed.1;rw [List.nodup_append] at this;exact this.2.2 t h t (by simp) rfl
theorem zFs {init:List Tr} {t:Tr} (hG:Good init) (hl:Leans init t) (hn:t ∉ init) (hb:Bytes t) (v:Value) [Decidable (v=zh (init++[t]) t)]:(if v=zh (init++[t]) t then none else zFq (init++[t]) v)=zFq init v:=by
 classical
 have e:=zi (List.prefix_append init [t]) hl;by_cases h:v=zh (init++[t]) t
 · rw [if_pos h,h,e,zFv hG hn hl hb]
 · rw [if_neg h,zFr hG hn hl hb,if_neg (e ▸ h)]
structure TrimR (Far:Nat→Prop) (sb:Nat) (most:Int) (ts us:List Tr) (w:World) (gk:Nat) (vs:List Tr) (wr:World):Prop where
 len:gk=vs.length
 low:ts <+: vs
 up:vs <+: us
 store:StoreIs wr Far sb most vs
 keeps:Keeps Far w wr
theorem zNP (w:World) (Far:Nat→Prop) (sb:Nat) (most:Int) (ts us:List Tr) (hts:ts <+: us) (hgr : ∀ vs,ts <+: vs→vs <+: us→Good vs) (hlen:us.length≤1000000000000) (hS:StoreIs w Far sb most us) :
 Calls Tryz.prog 102 #[.pointer (some ⟨sb,0,none⟩),(ts.length:Int)] w fun e w'=>e = .returned (.tuple #[])∧StoreIs w' Far sb most ts∧Keeps Far w w':=by
 have HR:TrimR Far sb most ts us w us.length us w:=⟨rfl,hts,List.prefix_refl _,hS,Keeps.refl _ _⟩;have hgr:=Bx.mk hgr;have hm0:(0:Int)≤(ts.length:Int):=by omega
 have hts:=Bx.mk hts;have hmax:max (0:Int) (ts.length:Int)=(ts.length:Int):=by omega
 clear hS;go_enter Tryz.func102,Tryz.ntmps102;go_wp2_with fail
 go_loopg [4] us.length (fun gk v wr => ∃ vs,TrimR Far sb most ts us w gk vs wr)
 case atStart=>exact ⟨us,HR⟩
 case round =>
  obtain ⟨vs,hR⟩:=hrel;obtain ⟨hgk,hp1,hp2,hS,hK⟩:=hR;by_cases hgt:ts.length<vs.length
  · obtain ⟨init,t,rfl⟩ : ∃ init t,vs=init++[t]:=⟨_,_,(List.dropLast_concat_getLast (by intro h;rw [h] at hgt;simp at hgt)).symm⟩
    have hp3:ts <+: init:=by
     rw [List.prefix_iff_eq_take] at hp1 ⊢;rw [List.take_append_of_le_length (by simp at hgt;omega)] at hp1
     exact hp1
    have hG:=hgr.out _ hp1 hp2;have hG2:=hgr.out _ hp3 ((List.prefix_append _ _).trans hp2);obtain ⟨hle,hni,hby⟩:=zGN hG;obtain ⟨mb,nv,ks,hrow,hmap,hP⟩:=hS.parts;rw [zLY hG2 hle] at hrow;obtain ⟨c,s,d,y0,y1,y2,y3,y4,y5,y6,y7,hV⟩:=zIP init t;rw [←zi (List.prefix_append init [t]) hle] at hV hrow;have hlen2:=hp2.length_le;have hkk:init.length≤1000000000000:=by simp at hlen2;omega
    obtain ⟨kl,hkl⟩:=zIR (ts:=init++[t]) (t:=t) (by omega) (hle.later (List.prefix_append _ _)) hby
    have hkm:=zFt hG (t:=t) (by simp)
    have hkd:=fun v=>@zFs init t hG2 hle hni hby v (Classical.propDecidable _);have hrl:=zLZ init;have hll:(init++[t]).length=init.length+1:=by simp
    rw [hV] at hrow hkl hkm hkd;rw [hll] at hrow hmap hgt hlen2
    obtain ⟨g,cap,cur,rfl,hcap⟩ : ∃ g cap,∃ cur:Bool,nv = .slice (some ⟨g,0,none⟩) (init.length+1) cap∧init.length+1≤cap:=by
     rcases hrow.2 with ⟨_,h0⟩ | ⟨g,cap,cur,h1,_,_,h2,_⟩
     · omega
     · exact ⟨g,cap,true,h1,h2⟩
    have hc : ∀ j u,j<12→(#[.int .i64 (zF9 t),c,.string s,d,y0,y1,y2,y3,y4,y5,y6,y7]:Array Value).toList[j]? = some u→wr.cell? ⟨g,init.length * 12+j,none⟩=some u:=fun j u hj hu=>by
     have:=World.ownsRow.cells hrow (g:=g) rfl (init.length * 12+j) u (by rw [List.getElem?_append_right (by omega),hrl,Nat.add_sub_cancel_left];exact hu)
     have e:(⟨g,0,none⟩:Addr).add (init.length * 12+j)=⟨g,init.length * 12+j,none⟩:=by unfold Addr.add;split <;> simp_all
     rw [e] at this;exact this
    replace hrow:=Bx.mk (zJB hrow hrl);replace hmap:=Bx.mk hmap;replace hkl:=Bx.mk hkl;replace hkm:=Bx.mk hkm;replace hkd:=Bx.mk hkd;replace hc:=Bx.mk hc;have hp4:=Bx.mk ((List.prefix_append init [t]).trans hp2);replace hp3:=Bx.mk hp3;replace hK:=Bx.mk hK;replace hP:=Bx.mk hP;replace hgk:=Bx.mk hgk;clear hlen2 hV hll hrl hG hG2 hle hni hby hS hp1 hp2;generalize zF9 t=kk at *;generalize hF:zFq (init++[t])=F at *;generalize hF0:zFq init=F0 at *;replace hF0:=Bx.mk hF0;generalize hti:(idT (init++[t]) t:Int)=ti at *;generalize hr0:zLX init=row0 at *;replace hr0:=Bx.mk hr0;generalize hk:init.length=k at *;replace hk:=Bx.mk hk;clear hF hti;have hcell:=ks.cell 1 rfl;have hB:Below wr.heap.size wr wr:=Below.refl _ _;have hSz:wr.heap.size≤wr.heap.size:=Nat.le_refl _;have b0:(0:Int)≤(k:Int):=by omega
    have b1:(k:Int)<(k:Int)+1:=by omega
    go_wp2_with fail
    all_goals
     clear hcell;have d0 : ∀ dk osk,(grow (redrawn wr dk) osk).cell? ⟨g,k * 12,none⟩=some (.int .i64 kk):=cell_regrown (hc.out 0 _ (by omega) rfl)
     have d1 : ∀ dk osk,(grow (redrawn wr dk) osk).cell? ⟨g,k * 12+1,none⟩=some (.int .i64 c):=cell_regrown (hc.out 1 _ (by omega) rfl)
     have d2 : ∀ dk osk,(grow (redrawn wr dk) osk).cell? ⟨g,k * 12+2,none⟩=some (.string s):=cell_regrown (hc.out 2 _ (by omega) rfl)
     have d3 : ∀ dk osk,(grow (redrawn wr dk) osk).cell? ⟨g,k * 12+3,none⟩=some (.int .i64 d):=cell_regrown (hc.out 3 _ (by omega) rfl)
     have d4 : ∀ dk osk,(grow (redrawn wr dk) osk).cell? ⟨g,k * 12+4,none⟩=some (.int .i64 y0):=cell_regrown (hc.out 4 _ (by omega) rfl)
     have d5 : ∀ dk osk,(grow (redrawn wr dk) osk).cell? ⟨g,k * 12+5,none⟩=some (.int .i64 y1):=cell_regrown (hc.out 5 _ (by omega) rfl)
     have d6 : ∀ dk osk,(grow (redrawn wr dk) osk).cell? ⟨g,k * 12+6,none⟩=some (.int .i64 y2):=cell_regrown (hc.out 6 _ (by omega) rfl)
     have d7 : ∀ dk osk,(grow (redrawn wr dk) osk).cell? ⟨g,k * 12+7,none⟩=some (.int .i64 y3):=cell_regrown (hc.out 7 _ (by omega) rfl)
     have d8 : ∀ dk osk,(grow (redrawn wr dk) osk).cell? ⟨g,k * 12+8,none⟩=some (.int .i64 y4):=cell_regrown (hc.out 8 _ (by omega) rfl)
     have d9 : ∀ dk osk,(grow (redrawn wr dk) osk).cell? ⟨g,k * 12+9,none⟩=some (.int .i64 y5):=cell_regrown (hc.out 9 _ (by omega) rfl)
     have d10 : ∀ dk osk,(grow (redrawn wr dk) osk).cell? ⟨g,k * 12+10,none⟩=some (.int .i64 y6):=cell_regrown (hc.out 10 _ (by omega) rfl)
     have d11 : ∀ dk osk,(grow (redrawn wr dk) osk).cell? ⟨g,k * 12+11,none⟩=some (.int .i64 y7):=cell_regrown (hc.out 11 _ (by omega) rfl)
     obtain ⟨cs0,cs1,cs2⟩:=ks.r3;refine zAL 11 (by kernel_rfl) (by kernel_rfl) ?_
     simp only [List.take_succ_cons,List.take_zero,List.drop_succ_cons,List.drop_zero]
     repeat (first | go_big_quiet_step ((fail)) | quiet_step (fail))
     refine wpQuiet_nil ?_;rintro _ ⟨⟨dq,osq⟩,rfl⟩;have hb:=below_regrown wr dq osq;replace hB:=hB.trans (hb.mono hB.size);clear cs0 cs1 cs2;replace ks:=ks.later hb;replace hSz:=Nat.le_trans hSz hb.size;clear hb;generalize grow (redrawn wr dq) osq=W1 at *;clear d0 d1 d2 d3 d4 d5 d6 d7 d8 d9 d10 d11;obtain ⟨W2,hrun,hm2,hg2⟩:=(hmap.out.kept (row:=none) (zQ hB) (by simp)).drop hkl.out hkm.out 0
     unfold zII at hrun;refine zOP (by rfl) _ _ _ _ (by rfl) _ _ _ (by rfl) (by rfl) hrun ?_
     replace ks:=ks.grownO hg2 (by simpa using fun e=>hP.out.apart e.symm)
     have hrow2:=Bx.mk (World.ownsRow.kept (World.ownsRow.kept hrow.out (zQ hB) (by simp [Value.ownBlock])) hg2 (.inr hP.out.nm))
     have hm3:=Bx.mk (hm2.congr (f':=F0) (fun key _ _=>Eq.trans (by congr) (hkd.out key)))
     have hK2:=Bx.mk ((hK.out.trans (Keeps.below hB)).trans (Keeps.grown hg2 (fun g e=>by simp only [Option.some.injEq] at e;rw [←e];exact hP.out.fm)))
     clear hrun hm2 hg2 hrow hmap hkl hkm hkd hK hB hSz;have cs1:=ks.cell 1 rfl;have fs1:=ks.frozen 1;have b2:(k:Int)≤(cap:Int):=by omega
     have b3 : ¬cap=k:=by omega
     go_wp2_with fail;have hs:=zS W2 ⟨sb,1,none⟩ (.slice (some ⟨g,0,none⟩) k cap);replace ks:Bk (W2.setCell ⟨sb,1,none⟩ (.slice (some ⟨g,0,none⟩) k cap)) sb #[most,.slice (some ⟨g,0,none⟩) k cap,.map (some mb)] 102:=by simpa using ks.set 1 (.slice (some ⟨g,0,none⟩) k cap)
     have hR:TrimR Far sb most ts us w k init (W2.setCell ⟨sb,1,none⟩ (.slice (some ⟨g,0,none⟩) k cap)):=by
      have hm4:=hm3.out;have hr4:=hrow2.out;rw [←hF0.out,Nat.add_sub_cancel,←hk.out] at hm4;rw [←hr0.out,←hk.out] at hr4;rw [←hk.out] at ks hs ⊢;refine ⟨rfl,hp3.out,hp4.out,StoreIs.of ks (World.ownsRow.kept hr4 hs (.inr hP.out.ns)) (hm4.kept hs (by simp only [ne_eq,Option.some.injEq];exact fun e=>hP.out.apart e.symm)) ⟨hP.out.fs,hP.out.fm,hP.out.fn,hP.out.apart,hP.out.ns,hP.out.nm⟩,hK2.out.trans (Keeps.grown hs (fun g e=>by simp only [Option.some.injEq] at e;rw [←e];exact hP.out.fs))⟩
     go_roundg k
     case rel=>exact ⟨init,hR⟩
     case measure=>have h1:=hgk.out;have h2:=hk.out;rw [List.length_append,h2] at h1;simp at h1;omega
  · have hvs:ts=vs:=hp1.eq_of_length_le (by omega)
    subst hvs;obtain ⟨mb,nv,ks,hrow,-,-⟩:=hS.parts;obtain ⟨na,nc,rfl⟩:=zLc hrow;have cs1:=ks.cell 1 rfl;have hS:=Bx.mk hS;have hK:=Bx.mk hK;clear hrow ks hgk;go_wp2_with fail
    all_goals
     go_end0
     exact ⟨rfl,hS.out,hK.out⟩
end Go.Proofs.YtgnfgblkpnfcnaaGreatDoor
namespace Go.Proofs.YtgnfgblkpnfcnaaGreatDoor
open Go.RowKit Go.Sort Go.Maps
open Oct
structure Done (Far:Nat→Prop) (sb:Nat) (most:Int) (ts ts':List Tr) (t:Tr) (w:World) (e:Ending) (w':World):Prop where
 keeps:Keeps Far w w'
 size:w.heap.size≤w'.heap.size
 way:(Tr.Fits most ts ts'∧e=zLK (idT ts' t:Int) 0∧StoreIs w' Far sb most ts')∨(¬Tr.Fits most ts ts'∧e=zLK 0 14∧StoreIs w' Far sb most ts)
theorem zN9 (w:World) (Far:Nat→Prop) (sb:Nat) (most:Int) (ts ts':List Tr) (t:Tr) (p0 p1:Addr) (hgr : ∀ vs,ts <+: vs→vs <+: ts'→Good vs) (hlen:ts'.length≤1000000000000) (hS:StoreIs w Far sb most ts)
 (hf:Calls Tryz.prog 86 #[.pointer (some p0),.pointer (some p1)] w (Grew Far sb most ts ts' t w)) :
 Calls Tryz.prog 71 #[.pointer (some ⟨sb,0,none⟩),.func (.func 86) #[] #[.pointer (some p0),.pointer (some p1)]] w (Done Far sb most ts ts' t w):=by
 obtain ⟨mb,nv,ks,hrow,-,-⟩:=hS.parts;obtain ⟨na,nc,rfl⟩:=zLc hrow;have cs1:=ks.cell 1 rfl;have hf:=Bx.mk hf;have hgr:=Bx.mk hgr;clear hrow ks hS;go_enter Tryz.func71,Tryz.ntmps71;go_wp2_with fail;refine hf.out.mono ?_;rintro e w1 hg;have hk:=Bx.mk hg.keeps;have hz:=Bx.mk hg.size;obtain ⟨-,-,(⟨hfit,rfl,hs⟩ | ⟨hfit,rfl,us,hu1,hu2,hu3,hs⟩)⟩:=hg
 · have hd:Done Far sb most ts ts' t w (zLK (idT ts' t:Int) 0) w1:=⟨hk.out,hz.out,.inl ⟨hfit,rfl,hs⟩⟩;clear hs hfit cs1 hf;go_wp2_with fail
   go_ret2
   exact hd
 · have hl:=hu3.length_le;have htrim:=Bx.mk (zNP w1 Far sb most ts us hu2 (fun vs h1 h2=>hgr.out vs h1 (h2.trans hu3)) (by omega) hs)
   have hfit:=Bx.mk hfit;clear hs cs1 hf hu1 hu2 hu3 hl;go_wp2_with fail;refine htrim.out.mono ?_;rintro e w2 ⟨rfl,hs2,hk2⟩;have hd:Done Far sb most ts ts' t w (zLK 0 14) w2:=⟨hk.out.trans hk2,Nat.le_trans hz.out hk2.size,.inr ⟨hfit.out,rfl,hs2⟩⟩;clear hs2 hk2 htrim hfit;go_wp2_with fail
   go_ret2
   exact hd
end Go.Proofs.YtgnfgblkpnfcnaaGreatDoor
namespace Go.Proofs.YtgnfgblkpnfcnaaGreatDoor
open Go.RowKit Go.Sort
theorem zIj (a b c d e f:Int):okB ⟨⟨a,b,c⟩,⟨d,e,f⟩⟩=[a,b,c,d,e,f].all okC:=by simp [okB,okP,Bool.and_assoc]
theorem zHq (c:Int) (w:World) :
 Calls Tryz.prog 126 #[c] w fun e w'=>e = .returned (.bool (decide (0≤c∧c≤255)))∧w=w':=by
 go_enter Tryz.func126,Tryz.ntmps126;go_wp2
 all_goals
  go_ret;exact ⟨zr (by rw [Bool.eq_iff_iff];simp;omega),rfl⟩
theorem zNr (c:Int) (w:World) :
 Calls Tryz.prog 125 #[c] w fun e w'=>e = .returned (.bool (!decide (0≤c∧c≤255)))∧w=w':=by
 have hm:=Bx.mk (zHq c);generalize decide (0≤c∧c≤255)=r at *;go_enter Tryz.func125,Tryz.ntmps125;go_wp2_with fail;refine (hm.out _).mono ?_;rintro e w1 ⟨rfl,rfl⟩;go_wp2;go_ret;exact ⟨rfl,rfl⟩
theorem zKE (a b c d e f:Int) (w:World) :
 Calls Tryz.prog 123 #[.agg #[a,b,c,d,e,f]] w fun e' w'=>e' = .returned (.bool (okB ⟨⟨a,b,c⟩,⟨d,e,f⟩⟩))∧Below w.heap.size w w':=by
 have hl:=Bx.mk (zIj a b c d e f);go_enter Tryz.func123,Tryz.ntmps123;go_wp2_with fail;generalize hW:World.alloc w _=W;have hSz:=sz1 hW;have hB:=bl1 hW;have kb:Bk W (w.heap.size) #[a,b,c,d,e,f] 25:=bk0 hW;clear hW
 go_loopw [24] (fun i wr => ∃ k:Nat,k≤6∧i = .int .i64 k∧([a,b,c,d,e,f].take k).all okC=true∧wr=W) (fun i _=>6 - (intOf i).toNat)
 case atStart=>exact ⟨0,by omega,rfl,by simp,rfl⟩
 case round =>
  obtain ⟨k,hk,hi,hall,rfl⟩:=hrel;have Hall:=Bx.mk hall;clear hall;by_cases hlt:k<6
  · obtain rfl | rfl | rfl | rfl | rfl | rfl:k=0∨k=1∨k=2∨k=3∨k=4∨k=5:=by omega
    · replace hi:_=Value.int .i64 0:=hi;subst hi;have hix : ∀ w,(Instr.index 177 (.agg #[a,b,c,d,e,f]) (.int .i64 0)).run Tryz.prog w = .ok (.int .i64 a) w:=fun _=>by kernel_rfl
      by_cases hlo:a < -1048575
      · have hf:Bx (okB ⟨⟨a,b,c⟩,⟨d,e,f⟩⟩=false):=⟨by rw [hl.out];simp [okC];omega⟩
        go_wp2_with fail;go_ret;exact ⟨zr hf.out.symm,hB⟩
      · by_cases hhi:1048575<a
        · have hf:Bx (okB ⟨⟨a,b,c⟩,⟨d,e,f⟩⟩=false):=⟨by rw [hl.out];simp [okC];omega⟩
          go_wp2_with fail;go_ret;exact ⟨zr hf.out.symm,hB⟩
        · have hn:Bx (([a,b,c,d,e,f].take 1).all okC=true):=⟨by have:=Hall.out;simp [okC] at this ⊢; omega⟩
          go_wp2_with fail
          go_roundw
          case rel=>exact ⟨1,by omega,by go_num,hn.out,by trivial⟩
          case measure=>simp [intOf]
    · replace hi:_=Value.int .i64 1:=hi;subst hi;have hix : ∀ w,(Instr.index 177 (.agg #[a,b,c,d,e,f]) (.int .i64 1)).run Tryz.prog w = .ok (.int .i64 b) w:=fun _=>by kernel_rfl
      by_cases hlo:b < -1048575
      · have hf:Bx (okB ⟨⟨a,b,c⟩,⟨d,e,f⟩⟩=false):=⟨by rw [hl.out];simp [okC];omega⟩
        go_wp2_with fail;go_ret;exact ⟨zr hf.out.symm,hB⟩
      · by_cases hhi:1048575<b
        · have hf:Bx (okB ⟨⟨a,b,c⟩,⟨d,e,f⟩⟩=false):=⟨by rw [hl.out];simp [okC];omega⟩
          go_wp2_with fail;go_ret;exact ⟨zr hf.out.symm,hB⟩
        · have hn:Bx (([a,b,c,d,e,f].take 2).all okC=true):=⟨by have:=Hall.out;simp [okC] at this ⊢; omega⟩
          go_wp2_with fail
          go_roundw
          case rel=>exact ⟨2,by omega,by go_num,hn.out,by trivial⟩
          case measure=>simp [intOf]
    · replace hi:_=Value.int .i64 2:=hi;subst hi;have hix : ∀ w,(Instr.index 177 (.agg #[a,b,c,d,e,f]) (.int .i64 2)).run Tryz.prog w = .ok (.int .i64 c) w:=fun _=>by kernel_rfl
      by_cases hlo:c < -1048575
      · have hf:Bx (okB ⟨⟨a,b,c⟩,⟨d,e,f⟩⟩=false):=⟨by rw [hl.out];simp [okC];omega⟩
        go_wp2_with fail;go_ret;exact ⟨zr hf.out.symm,hB⟩
      · by_cases hhi:1048575<c
        · have hf:Bx (okB ⟨⟨a,b,c⟩,⟨d,e,f⟩⟩=false):=⟨by rw [hl.out];simp [okC];omega⟩
          go_wp2_with fail;go_ret;exact ⟨zr hf.out.symm,hB⟩
        · have hn:Bx (([a,b,c,d,e,f].take 3).all okC=true):=⟨by have:=Hall.out;simp [okC] at this ⊢; omega⟩
          go_wp2_with fail
          go_roundw
          case rel=>exact ⟨3,by omega,by go_num,hn.out,by trivial⟩
          case measure=>simp [intOf]
    · replace hi:_=Value.int .i64 3:=hi;subst hi;have hix : ∀ w,(Instr.index 177 (.agg #[a,b,c,d,e,f]) (.int .i64 3)).run Tryz.prog w = .ok (.int .i64 d) w:=fun _=>by kernel_rfl
      by_cases hlo:d < -1048575
      · have hf:Bx (okB ⟨⟨a,b,c⟩,⟨d,e,f⟩⟩=false):=⟨by rw [hl.out];simp [okC];omega⟩
        go_wp2_with fail;go_ret;exact ⟨zr hf.out.symm,hB⟩
      · by_cases hhi:1048575<d
        · have hf:Bx (okB ⟨⟨a,b,c⟩,⟨d,e,f⟩⟩=false):=⟨by rw [hl.out];simp [okC];omega⟩
          go_wp2_with fail;go_ret;exact ⟨zr hf.out.symm,hB⟩
        · have hn:Bx (([a,b,c,d,e,f].take 4).all okC=true):=⟨by have:=Hall.out;simp [okC] at this ⊢; omega⟩
          go_wp2_with fail
          go_roundw
          case rel=>exact ⟨4,by omega,by go_num,hn.out,by trivial⟩
          case measure=>simp [intOf]
    · replace hi:_=Value.int .i64 4:=hi;subst hi;have hix : ∀ w,(Instr.index 177 (.agg #[a,b,c,d,e,f]) (.int .i64 4)).run Tryz.prog w = .ok (.int .i64 e) w:=fun _=>by kernel_rfl
      by_cases hlo:e < -1048575
      · have hf:Bx (okB ⟨⟨a,b,c⟩,⟨d,e,f⟩⟩=false):=⟨by rw [hl.out];simp [okC];omega⟩
        go_wp2_with fail;go_ret;exact ⟨zr hf.out.symm,hB⟩
      · by_cases hhi:1048575<e
        · have hf:Bx (okB ⟨⟨a,b,c⟩,⟨d,e,f⟩⟩=false):=⟨by rw [hl.out];simp [okC];omega⟩
          go_wp2_with fail;go_ret;exact ⟨zr hf.out.symm,hB⟩
        · have hn:Bx (([a,b,c,d,e,f].take 5).all okC=true):=⟨by have:=Hall.out;simp [okC] at this ⊢; omega⟩
          go_wp2_with fail
          go_roundw
          case rel=>exact ⟨5,by omega,by go_num,hn.out,by trivial⟩
          case measure=>simp [intOf]
    · replace hi:_=Value.int .i64 5:=hi;subst hi;have hix : ∀ w,(Instr.index 177 (.agg #[a,b,c,d,e,f]) (.int .i64 5)).run Tryz.prog w = .ok (.int .i64 f) w:=fun _=>by kernel_rfl
      by_cases hlo:f < -1048575
      · have hf:Bx (okB ⟨⟨a,b,c⟩,⟨d,e,f⟩⟩=false):=⟨by rw [hl.out];simp [okC];omega⟩
        go_wp2_with fail;go_ret;exact ⟨zr hf.out.symm,hB⟩
      · by_cases hhi:1048575<f
        · have hf:Bx (okB ⟨⟨a,b,c⟩,⟨d,e,f⟩⟩=false):=⟨by rw [hl.out];simp [okC];omega⟩
          go_wp2_with fail;go_ret;exact ⟨zr hf.out.symm,hB⟩
        · have hn:Bx (([a,b,c,d,e,f].take 6).all okC=true):=⟨by have:=Hall.out;simp [okC] at this ⊢; omega⟩
          go_wp2_with fail
          go_roundw
          case rel=>exact ⟨6,by omega,by go_num,hn.out,by trivial⟩
          case measure=>simp [intOf]
  · obtain rfl:k=6:=by omega
    replace hi:_=Value.int .i64 6:=hi;subst hi;go_wp2_with fail;go_ret;exact ⟨zr (by rw [hl.out];have:=Hall.out;simpa using this.symm),hB⟩
end Go.Proofs.YtgnfgblkpnfcnaaGreatDoor
namespace Go.Proofs.YtgnfgblkpnfcnaaGreatDoor
open Go.RowKit
namespace Pal
def cell (c:Int):Bool:=decide (0≤c) && decide (c≤255)
def brick (l:List Int):Bool:=decide (l.length=64) && l.all cell
theorem cell_eq (c:Int):cell c=decide (0≤c∧c≤255):=by simp [cell]
end Pal
theorem zKb (c:Int) (w:World):Calls Tryz.prog 175 #[c] w fun e w'=>e = .returned (.bool (Pal.cell c))∧w=w':=by
 by_cases h1:0≤c <;> by_cases h2:c≤255
 all_goals
  have hr:Bx (Pal.cell c=(decide (0≤c) && decide (c≤255))):=⟨rfl⟩;go_enter Tryz.func175,Tryz.ntmps175;go_wp2;go_ret;exact ⟨zr (by rw [hr.out];simp [*]),rfl⟩
theorem zBA {xs:List Int} {k:Nat} {x:Int} {f:Int→Bool} (hx:xs[k]? = some x) (h:(xs.take k).all f=true) (hf:f x=true):(xs.take (k+1)).all f=true:=by
 rw [List.take_add_one,hx];simp [h,hf]
theorem zBB {xs:List Int} {k:Nat} {x:Int} {f:Int→Bool} (hx:xs[k]? = some x) (hf:f x=false):xs.all f=false:=by
 obtain ⟨hl,rfl⟩:=List.getElem?_eq_some_iff.1 hx;rw [List.all_eq_false];exact ⟨_,List.getElem_mem hl,by simp [hf]⟩
theorem zA9 {xs:List Int} {n:Nat} {f:Int→Bool} (hn:Bx (xs.length=n)) (h:(xs.take n).all f=true):xs.all f=true:=by
 rw [←hn.out,List.take_length] at h;exact h
theorem zKc (a:Option Addr) (cap:Nat) (xs:List Int) (w:World) (hl:xs.length≤1000000000) (h:Sl w .i64 a xs) :
 Calls Tryz.prog 144 #[.slice a xs.length cap] w fun e w'=>e = .returned (.bool (xs.all Pal.cell))∧w=w':=by
 generalize hn:xs.length=n at hl;have Hn:=Bx.mk hn;clear hn;go_enter Tryz.func144,Tryz.ntmps144;go_wp2
 go_loop [3] (fun i => ∃ k:Nat,k≤n∧i = .int .i64 k∧(xs.take k).all Pal.cell=true) (fun i=>n - (intOf i).toNat)
 case atStart=>exact ⟨0,Nat.zero_le _,rfl,by simp⟩
 case round =>
  obtain ⟨k,hk,rfl,hall⟩:=hrel;have Hall:=Bx.mk hall;clear hall;by_cases hlt:k<n
  · obtain ⟨x,hx⟩:=zBT Hn hlt;obtain ⟨b,off,rfl,hc⟩:=h k x hx;have Hx:=Bx.mk hx;clear h hx;cases hcx:Pal.cell x with
    | false =>
      have hf:=Bx.mk (zBB Hx.out hcx);go_wp2_with (go_at_call 175;refine (zKb x _).mono ?_;rintro e w' ⟨rfl,rfl⟩);go_ret;exact ⟨zr hf.out.symm,rfl⟩
    | true =>
      have hf:=Bx.mk (zBA Hx.out Hall.out hcx);go_wp2_with (go_at_call 175;refine (zKb x _).mono ?_;rintro e w' ⟨rfl,rfl⟩);go_round
      case rel=>exact ⟨k+1,by omega,by go_num,hf.out⟩
      case measure=>simp [intOf];omega
  · have hkn:k=n:=by omega
    have hf:=Bx.mk (zA9 Hn (hkn ▸ Hall.out));clear hkn;go_wp2;go_ret;exact ⟨zr hf.out.symm,rfl⟩
theorem zCk (c:Int) (w:World):Calls Tryz.prog 125 #[c] w fun e w'=>e = .returned (.bool (!Pal.cell c))∧w=w':=by
 rw [Pal.cell_eq];exact zNr c w
theorem zCj (c:Int) (w:World):Calls Tryz.prog 119 #[c] w fun e w'=>e = .returned (.bool (!Pal.cell c))∧w=w':=by
 have hm:=Bx.mk (zFl c);rw [Pal.cell_eq];generalize decide (0≤c∧c≤255)=r at *;go_enter Tryz.func119,Tryz.ntmps119;go_wp2_with fail;refine (hm.out _).mono ?_;rintro e w1 ⟨rfl,rfl⟩;go_wp2;go_ret;exact ⟨rfl,rfl⟩
theorem zFX (a:Option Addr) (cap:Nat) (xs:List Int) (w:World) (hl:xs.length≤1000000000) (h:Sl w .i64 a xs) :
 Calls Tryz.prog 152 #[.slice a xs.length cap,.func (.func 125) #[] #[]] w fun e w'=>(∃ r:Int,e = .returned (.int .i64 r)∧(decide (0≤r) = !xs.all Pal.cell))∧w=w':=by
 generalize hn:xs.length=n at hl;have Hn:=Bx.mk hn;clear hn;go_enter Tryz.func152,Tryz.ntmps152;go_wp2
 go_loop [8] (fun i => ∃ k:Nat,k≤n∧i = .int .i64 k∧(xs.take k).all Pal.cell=true) (fun i=>n - (intOf i).toNat)
 case atStart=>exact ⟨0,Nat.zero_le _,rfl,by simp⟩
 case round =>
  obtain ⟨k,hk,rfl,hall⟩:=hrel;have Hall:=Bx.mk hall;clear hall;by_cases hlt:k<n
  · obtain ⟨x,hx⟩:=zBT Hn hlt;obtain ⟨b,off,rfl,hc⟩:=h k x hx;have Hx:=Bx.mk hx;clear h hx;cases hcx:Pal.cell x with
    | false =>
      have hf:=Bx.mk (zBB Hx.out hcx);go_wp2_with (go_at_call 125;refine (zCk x _).mono ?_;rintro e w' ⟨rfl,rfl⟩);go_ret;exact ⟨⟨_,rfl,by rw [hf.out];simp⟩,rfl⟩
    | true =>
      have hf:=Bx.mk (zBA Hx.out Hall.out hcx);go_wp2_with (go_at_call 125;refine (zCk x _).mono ?_;rintro e w' ⟨rfl,rfl⟩);go_round
      case rel=>exact ⟨k+1,by omega,by go_num,hf.out⟩
      case measure=>simp [intOf];omega
  · have hkn:k=n:=by omega
    have hf:=Bx.mk (zA9 Hn (hkn ▸ Hall.out));clear hkn;go_wp2;go_ret;exact ⟨⟨_,rfl,by rw [hf.out];simp⟩,rfl⟩
theorem zCt (a:Option Addr) (cap:Nat) (xs:List Int) (w:World) (hl:xs.length≤1000000000) (h:Sl w .i64 a xs) :
 Calls Tryz.prog 118 #[.slice a xs.length cap,.func (.func 125) #[] #[]] w fun e w'=>e = .returned (.bool (!xs.all Pal.cell))∧w=w':=by
 go_enter Tryz.func118,Tryz.ntmps118;go_wp2_with (go_at_call 152;refine (zFX a cap xs _ hl h).mono ?_;rintro e w' ⟨⟨r,rfl,hr⟩,rfl⟩;have Hr:=Bx.mk hr;clear hr);go_ret;exact ⟨zr Hr.out,rfl⟩
theorem zFU (a:Option Addr) (cap:Nat) (xs:List Int) (w:World) (hl:xs.length≤1000000000) (h:Sl w .i64 a xs) :
 Calls Tryz.prog 152 #[.slice a xs.length cap,.func (.func 119) #[] #[]] w fun e w'=>(∃ r:Int,e = .returned (.int .i64 r)∧(decide (0≤r) = !xs.all Pal.cell))∧w=w':=by
 generalize hn:xs.length=n at hl;have Hn:=Bx.mk hn;clear hn;go_enter Tryz.func152,Tryz.ntmps152;go_wp2
 go_loop [8] (fun i => ∃ k:Nat,k≤n∧i = .int .i64 k∧(xs.take k).all Pal.cell=true) (fun i=>n - (intOf i).toNat)
 case atStart=>exact ⟨0,Nat.zero_le _,rfl,by simp⟩
 case round =>
  obtain ⟨k,hk,rfl,hall⟩:=hrel;have Hall:=Bx.mk hall;clear hall;by_cases hlt:k<n
  · obtain ⟨x,hx⟩:=zBT Hn hlt;obtain ⟨b,off,rfl,hc⟩:=h k x hx;have Hx:=Bx.mk hx;clear h hx;cases hcx:Pal.cell x with
    | false =>
      have hf:=Bx.mk (zBB Hx.out hcx);go_wp2_with (go_at_call 119;refine (zCj x _).mono ?_;rintro e w' ⟨rfl,rfl⟩);go_ret;exact ⟨⟨_,rfl,by rw [hf.out];simp⟩,rfl⟩
    | true =>
      have hf:=Bx.mk (zBA Hx.out Hall.out hcx);go_wp2_with (go_at_call 119;refine (zCj x _).mono ?_;rintro e w' ⟨rfl,rfl⟩);go_round
      case rel=>exact ⟨k+1,by omega,by go_num,hf.out⟩
      case measure=>simp [intOf];omega
  · have hkn:k=n:=by omega
    have hf:=Bx.mk (zA9 Hn (hkn ▸ Hall.out));clear hkn;go_wp2;go_ret;exact ⟨⟨_,rfl,by rw [hf.out];simp⟩,rfl⟩
theorem zCr (a:Option Addr) (cap:Nat) (xs:List Int) (w:World) (hl:xs.length≤1000000000) (h:Sl w .i64 a xs) :
 Calls Tryz.prog 118 #[.slice a xs.length cap,.func (.func 119) #[] #[]] w fun e w'=>e = .returned (.bool (!xs.all Pal.cell))∧w=w':=by
 go_enter Tryz.func118,Tryz.ntmps118;go_wp2_with (go_at_call 152;refine (zFU a cap xs _ hl h).mono ?_;rintro e w' ⟨⟨r,rfl,hr⟩,rfl⟩;have Hr:=Bx.mk hr;clear hr);go_ret;exact ⟨zr Hr.out,rfl⟩
end Go.Proofs.YtgnfgblkpnfcnaaGreatDoor
end
