/- Pwb, Pov, Jbl, Jby, Pal, RlM, Poi: joined by program, for one claim. -/
import Derived.Test.YtajhkncolbgkbaaDoorM11
import Derived.ProofKit
import Derived.OpenShut
import Derived.ChangeArms
import Derived.ChangeSlices
import Derived.ChangeSame
import Derived.WideShapes
import Derived.Deep.Strs
import Derived.Deep.Slices
import Derived.Deep.Fields
import Derived.Test.YtajhkncolbgkbaaDoorM3
import Derived.Test.YtajhkncolbgkbaaDoorM7
import Derived.RangeFuncNested
import Derived.RangeFuncBound
import Derived.RangeFuncCalls
import Derived.RangeFuncLeaves
import Derived.Shelf.Abstract
import Derived.Shelf.RegionOpen
import Derived.WalkKit
import Derived.OwnWalkIn
import Derived.TacticsInMore
import Derived.LoopNIn
import Derived.LoopIn
import Derived.Test.YtajhkncolbgkbaaDoorM8
import Derived.OrdersIn
set_option linter.unusedVariables false
set_option linter.unusedSimpArgs false
namespace Go.Proofs.YtajhkncolbgkbaaDoor
section
open Go.RowKit Go.Sort Go.Maps
set_option maxRecDepth 100000 in
set_option maxHeartbeats 1000000 in
theorem pwrite_bad (w:World) (pp dp N g mb cap m:Nat) (bv:Value) (cl:Bool) (d:Dk) (hp:PS w pp dp N bv cl) (h:DkIs w dp g mb cap m d) (a:Option Addr) (c:Nat) (l:List (Int × List Int)) (hl:l.length≤1000) (hs:SlP w a l) (hw64 : ∀ x∈l,(-9223372036854775808≤x.1∧x.1≤9223372036854775807)∧x.2.length≤10000)
 (hne:chkV cl N ((d.p.length:Int) - 17) l ≠ 0) :
 Calls Tryd.prog 25 #[.pointer (some ⟨pp,0,none⟩),.slice a l.length c] w fun e w'=>e = .returned (.int .i64 (chkV cl N ((d.p.length:Int) - 17) l))∧Below w.heap.size w w':=by
 have hck:=Bx.mk (pcheck_any w pp dp N g mb cap m bv cl d hp h a c l hl hs hw64)
 generalize chkV cl N ((d.p.length:Int) - 17) l=er at *
 have n1:(er != 0)=true:=by simpa using hne
 have n2:(er == 0)=false:=by simpa using hne
 clear hp h hl hs hw64 hne
 generalize l.length=n at *
 go_enter Tryd.func25,Tryd.ntmps25
 go_wp2_with fail
 refine hck.out.mono ?_
 rintro _ w1 ⟨rfl,hb1⟩
 have HB:=Bx.mk hb1
 clear hb1 hck
 go_wp2_with fail
 go_ret
 exact ⟨rfl,HB.out⟩
theorem chk_batch {cl:Bool} {N n:Nat} {l:List (Int × List Int)} (hb : ∀ x∈l,Byts x.2) (h:chkV cl N ((n:Int) - 17) l=0) :
 cl=false∧N<1073741824 ∧ ∃ L:List (Nat × List Int),l=L.map (fun x=>((x.1:Int),x.2))∧BatchOk n L:=by
 unfold chkV at h
 split at h
 · simp at h
 rename_i h1
 split at h
 · simp at h
 rename_i h2
 split at h
 · simp at h
 rename_i h3
 have hok:okTo ((n:Int) - 17) l l.length:=by
  apply Classical.byContradiction
  intro h'
  rw [okV_no h'] at h
  simp at h
 have hat : ∀ (i:Nat) x,l[i]? = some x→0≤x.1∧x.1<(n:Int) - 17∧x.2.length=116∧(0<i → ∀ y,l[i - 1]? = some y→y.1<x.1):=fun i x hx=>hok i x (List.getElem?_eq_some_iff.1 hx).1 hx
 refine ⟨by simpa using h1,by omega,l.map (fun x=>(x.1.toNat,x.2)),?_,?_⟩
 · rw [List.map_map]
   conv=>lhs;rw [←List.map_id l]
   apply List.map_congr_left
   intro x hx
   obtain ⟨i,hi⟩:=List.mem_iff_getElem?.1 hx
   obtain ⟨xp,xt⟩:=x
   have:=(hat i _ hi).1
   simp only [Function.comp,id,Prod.mk.injEq,and_true]
   simp only at this;omega
 · have hm : ∀ x∈l,0≤x.1∧x.1<(n:Int) - 17∧x.2.length=116:=fun x hx=>by
    obtain ⟨i,hi⟩:=List.mem_iff_getElem?.1 hx
    have:=hat i x hi
    exact ⟨this.1,this.2.1,this.2.2.1⟩
   refine ⟨by rw [List.length_map];omega,by rw [List.length_map];omega,fun x hx=>?_,fun x hx=>?_,?_⟩
   · obtain ⟨y,hy,rfl⟩:=List.mem_map.1 hx
     have:=hm y hy
     simp only;omega
   · obtain ⟨y,hy,rfl⟩:=List.mem_map.1 hx
     exact ⟨(hm y hy).2.2,hb y hy⟩
   · rw [List.map_map]
     -- the neighbours grow,so all do
     have key : ∀ (j i:Nat) x y,i<j→l[i]? = some x→l[j]? = some y→x.1<y.1:=by
      intro j
      induction j with
      | zero=>intro i x y h;omega
      | succ j ih =>
        intro i x y hij hx hy
        have hj:j<l.length:=by have:=(List.getElem?_eq_some_iff.1 hy).1;omega
        have hz:=List.getElem?_eq_getElem hj
        have h4:=(hat (j+1) y hy).2.2.2 (by omega) _ hz
        by_cases e:i=j
        · subst e;rw [hz] at hx;rw [←Option.some.inj hx];exact h4
        · have:=ih i x _ (by omega) hx hz
          omega
     rw [List.pairwise_iff_getElem]
     intro i j hi hj hij
     rw [List.length_map] at hi hj
     rw [List.getElem_map,List.getElem_map]
     have h5:=key j i _ _ hij (List.getElem?_eq_getElem hi) (List.getElem?_eq_getElem hj)
     have h6:=(hm _ (List.getElem_mem hi)).1
     simp only [Function.comp];omega
end
section
open Go.RowKit Go.ChangeShapes Go.WideShapes
theorem cellsI14 : Tryd.prog.cellsOf 3=1:=by kernel_rfl
section
variable {H:Type} {enc:TypeId × Value→H} {w:World} {base:Nat} {held:Bool}
theorem open_rowsL {S:Type} {t e:TypeId} {k:Nat} (f:S→List Value) (Pk:S→Prop) (ht : Tryd.prog.underlying t=some (.slice e)) (hk : Tryd.prog.cellsOf e=k) (hpos:0<k) (s0:S)
 (R : ∀ {n:Nat} {cs:List Value} {y:DataW H × List MemPlace},cs.length=k→DataW.trod enc Tryd.prog w base (fun _=>true) held n e cs=some y → ∃ s:S,cs=f s∧Pk s)
 {fuel:Nat} {x:DataW H × List MemPlace} {v:Value} (h:DataW.trod enc Tryd.prog w base (fun _=>true) held fuel t [v]=some x) :
 ∃ ha hcp,∃ L:List S,v = .slice ha L.length hcp∧(L.length≤hcp∧hcp≤maxLen) ∧ ∀ (i:Nat) (s:S),L[i]? = some s → ∃ b off,ha=some ⟨b,off,none⟩∧(∀ j u,(f s)[j]? = some u→w.cell? ⟨b,off+i * k+j,none⟩=some u)∧Pk s:=by
 rcases Go.Deep.open_slice ht h with ⟨h1,_⟩ | ⟨a,len,cap,m,n,D,Pl,h1,_,hl,hcm,hm,_,hi⟩
 · simp only [List.cons.injEq,and_true] at h1
   exact ⟨none,0,[],h1,⟨Nat.le_refl _,Nat.zero_le _⟩,fun i s h=>by simp at h⟩
 · simp only [List.cons.injEq,and_true] at h1
   simp only [if_true] at hm
   subst hm
   have key : ∀ i,i<len → ∃ s:S,(f s).length=k∧(∀ j u,(f s)[j]? = some u→w.cell? (a.add (i * k+j))=some u)∧Pk s:=by
    intro i hil
    obtain ⟨cs,hcs,ht'⟩:=hi i (by omega)
    rw [hk] at hcs
    obtain ⟨_,hlen,hat⟩:=World.cells?_some hcs
    obtain ⟨s,rfl,hP⟩:=R hlen ht'
    refine ⟨s,hlen,fun j u hu=>?_,hP⟩
    have hj:=(List.getElem?_eq_some_iff.1 hu).1
    have:=hat j (by omega)
    rw [Go.Deep.add_add] at this
    rw [this]
    simpa [List.getD] using hu
   have hf : ∃ g:Nat→S,∀ i,i<len→(f (g i)).length=k∧(∀ j u,(f (g i))[j]? = some u→w.cell? (a.add (i * k+j))=some u)∧Pk (g i) :=
    ⟨fun i=>if h:i<len then (key i h).choose else s0,fun i h=>by simp only [dif_pos h];exact (key i h).choose_spec⟩
   obtain ⟨g,hf⟩:=hf
   refine ⟨some a,m,(List.range len).map g,by simpa using h1,⟨by simpa using hl,hcm⟩,fun i s he=>?_⟩
   rw [List.getElem?_map] at he
   have hil:i<len:=by
    rcases Nat.lt_or_ge i len with h | h
    · exact h
    · rw [List.getElem?_eq_none (by simpa using h)] at he;cases he
   rw [List.getElem?_range hil] at he
   simp only [Option.map_some,Option.some.injEq] at he
   subst he
   obtain ⟨hlen,hc,hP⟩:=hf i hil
   obtain ⟨b,off,spot⟩:=a
   have hspot:spot=none:=by
    obtain ⟨hlen0,hc0,-⟩:=hf 0 (by omega)
    have h0:=hc0 0 _ (List.getElem?_eq_getElem (by omega))
    have h1:=World.cell?_spot h0
    rw [Nat.zero_mul] at h1
    exact h1
   subst hspot
   have ha : ∀ j,(⟨b,off,none⟩:Addr).add j=⟨b,off+j,none⟩:=fun j=>by unfold Addr.add;split <;> simp_all
   refine ⟨b,off,rfl,fun j u hu=>?_,hP⟩
   have:=hc j u hu
   rw [ha] at this
   rw [Nat.add_assoc]
   exact this
end
section
variable {H:Type} {enc:TypeId × Value→H} {w:World} {base:Nat} {spare:Nat→Bool} {held:Bool} {fuel:Nat} {x:DataW H × List MemPlace}
theorem trod_int14 {v:Value} (h:DataW.trod enc Tryd.prog w base spare held fuel 3 [v]=some x) : ∃ n:Int,v = .int .i64 n∧(Lit.int .i64 n).wf=true:=by
 obtain ⟨n,h1,_,h2⟩:=DataW.trod_int Tryd.underlying3 h
 simp only [List.cons.injEq,and_true] at h1
 exact ⟨n,h1,h2⟩
end
structure OpB where
 kind:Int
 pa:Option Addr
 pc:Nat
 pg:List Int
 by_:Int
 n:Int
 ka:Option Addr
 kc:Nat
 picks:List Int
def OpB.cells (s:OpB):List Value:=[.int .i64 s.kind,.slice s.pa s.pg.length s.pc,.int .u8 s.by_,.int .i64 s.n,.slice s.ka s.picks.length s.kc]
def OpB.agg (s:OpB):Value:=.agg #[.int .i64 s.kind,.slice s.pa s.pg.length s.pc,.int .u8 s.by_,.int .i64 s.n,.slice s.ka s.picks.length s.kc]
structure OpB.Ok (w:World) (s:OpB):Prop where
 sl:Sl w .i64 s.pa s.pg
 i64 : ∀ x∈s.pg,-9223372036854775808≤x∧x≤9223372036854775807
 len:s.pg.length≤9223372036854775807
 byt:0≤s.by_∧s.by_≤255
theorem OpB.Ok.later {w w':World} {s:OpB} (h:s.Ok w) (hb:Below w.heap.size w w'):s.Ok w':=⟨h.sl.below hb,h.i64,h.len,h.byt⟩
def OpsB (w:World) (a:Option Addr) (L:List OpB):Prop := ∀ (i:Nat) (s:OpB),L[i]? = some s → ∃ b off,a=some ⟨b,off,none⟩∧(∀ j u,s.cells[j]? = some u→w.cell? ⟨b,off+i * 5+j,none⟩=some u)∧s.Ok w
theorem OpsB.later {w w':World} {a:Option Addr} {L:List OpB} (h:OpsB w a L) (hb:Below w.heap.size w w'):OpsB w' a L:=fun i s hs=>by
 obtain ⟨b,off,e,hc,ho⟩:=h i s hs
 exact ⟨b,off,e,fun j u hu=>cell_later hb (hc j u hu),ho.later hb⟩
section
variable {H:Type} {enc:TypeId × Value→H} {w:World} {base:Nat} {held:Bool}
end
end
section
open Go.RowKit Go.Sort Go.Maps
theorem jb_size:(Tryd.prog.info? 108).map (·.size)=some 2:=by kernel_rfl
theorem jb_lies:liesAt Tryd.prog Tryd.prog.depth 108 (2 / Tryd.prog.cellsOf 108) 0 108 1=true:=by kernel_rfl
set_option maxRecDepth 100000 in
set_option maxHeartbeats 1000000 in
theorem jb_used (b:Nat) (w:World) (h0:w.cell? ⟨b,0,none⟩=some (.pointer (some ⟨b,0,none⟩))) :
 Calls Tryd.prog 80 #[.pointer (some ⟨b,0,none⟩)] w fun e w'=>e = .returned (.tuple #[])∧w'=w:=by
 obtain ⟨j,hj,_⟩:=Option.map_eq_some_iff.1 jb_size
 go_enter Tryd.func80,Tryd.ntmps80
 go_wp2
 rw [Lib.run_neq_ptr_same w _ Tryd.underlying106 hj]
 go_wp2
 go_end0
 exact ⟨rfl,rfl⟩
set_option maxRecDepth 100000 in
set_option maxHeartbeats 1000000 in
theorem jb_fresh (b:Nat) (w:World) (h0:w.cell? ⟨b,0,none⟩=some (.pointer none)) (hsh:w.shape? b=some (108,2)) (hfz:w.frozen? ⟨b,0,none⟩=false) :
 Calls Tryd.prog 80 #[.pointer (some ⟨b,0,none⟩)] w fun e w'=>e = .returned (.tuple #[])∧w'=w.setCell ⟨b,0,none⟩ (.pointer (some ⟨b,0,none⟩)):=by
 obtain ⟨j,hj,hjs⟩:=Option.map_eq_some_iff.1 jb_size
 go_enter Tryd.func80,Tryd.ntmps80
 go_wp2
 rw [Lib.run_to_unsafe w ⟨b,0,none⟩ Tryd.underlying106 Tryd.underlying145 hj (by rw [hjs];decide) hsh (Nat.zero_lt_succ 1)]
 simp only [Result.andThen]
 rw [Oper.upon_value]
 go_wp2
 rw [run_callFunc_extern Tryd.func91 (by kernel_rfl) (by kernel_rfl) (by kernel_rfl) (e:=Extern.AbiNoEscape.same) (by kernel_rfl)]
 rw [Lib.run_noEscape]
 simp only [Result.andThen]
 rw [Oper.upon_value]
 go_wp2
 rw [Lib.run_from_unsafe w ⟨b,0,none⟩ Tryd.underlying145 Tryd.underlying106 hj hsh jb_lies]
 simp only [Result.andThen]
 rw [Oper.upon_value]
 go_wp2
 go_end0
 exact ⟨rfl,rfl⟩
theorem jb_check (B b:Nat) (bs:List Value) (w:World) (h:Lib.IsBuilder 108 5 B b bs w) :
 Calls Tryd.prog 80 #[.pointer (some ⟨b,0,none⟩)] w fun e w'=>e = .returned (.tuple #[])∧Lib.BuilderAt 108 5 B b (.pointer (some ⟨b,0,none⟩)) bs w'∧Below B w w':=by
 rcases h with h | h
 · refine (jb_fresh b w h.cell0 h.shape h.frozen0).mono ?_
   rintro e w' ⟨rfl,rfl⟩
   exact ⟨rfl,h.used _,(Below.refl B w).setCell (p:=⟨b,0,none⟩) h.1 _⟩
 · refine (jb_used b w h.cell0).mono ?_
   rintro e w' ⟨rfl,rfl⟩
   exact ⟨rfl,h,Below.refl B _⟩
set_option maxRecDepth 100000 in
set_option maxHeartbeats 2000000 in
theorem jb_write (B b:Nat) (bs:List Value) (s:ByteArray) (w:World) (h:Lib.IsBuilder 108 5 B b bs w) (hlen:bs.length+s.size≤140737488355328) (hBw:B≤w.heap.size) :
 Calls Tryd.prog 55 #[.pointer (some ⟨b,0,none⟩),.string s] w fun e w'=>e = .returned (.tuple #[.int .i64 s.size,.nilIface])∧Lib.IsBuilder 108 5 B b (bs++Lib.strCells s) w'∧Below B w w':=by
 obtain ⟨i0,hi,hz0,hz1,hz2⟩:=info_parts (show (Tryd.prog.info? 5).map (fun i=>(i.zero,i.size,i.bytes))=some (some (.int .u8 0),1,1) by kernel_rfl)
 have hck:=Bx.mk (jb_check B b bs w h)
 go_enter Tryd.func55,Tryd.ntmps55
 go_wp2_with fail
 refine hck.out.mono ?_
 rintro _ w1 ⟨rfl,h1,hb1⟩
 obtain ⟨hB,v,hbk,hown,hne⟩:=h1
 have c0:w1.cell? ⟨b,0,none⟩=some (.pointer (some ⟨b,0,none⟩)):=by rw [Lib.cell_of_heap hbk];rfl
 have c1:w1.cell? ⟨b,1,none⟩=some v:=by rw [Lib.cell_of_heap hbk];rfl
 go_wp2_with (at_builtin;refine Lib.wpList_append_own_string _ rfl _ _ 75 9 rfl B 5 i0 Tryd.underlying75 Tryd.underlying9 hi hz0 hz1 hz2 _ _ _ rfl hown s rfl ?c3 ?c4 ?c5 ?_)
 case c3=>unfold maxLen;omega
 case c4=>omega
 case c5=>have:=hb1.size;omega
 intro v' w2 hown' hgrow _
 have hlt:b<w1.heap.size:=(Array.getElem?_eq_some_iff.1 hbk).1
 have hb2:w2.heap[b]? = some (.cells #[.pointer (some ⟨b,0,none⟩),v] 108 (0,0)):=by
  rw [hgrow.block b hlt (fun e=>hne e.symm)]
  exact hbk
 have d0:w2.cell? ⟨b,0,none⟩=some (.pointer (some ⟨b,0,none⟩)):=by rw [Lib.cell_of_heap hb2];rfl
 have d1:w2.cell? ⟨b,1,none⟩=some v:=by rw [Lib.cell_of_heap hb2];rfl
 have f1:w2.frozen? ⟨b,1,none⟩=false:=Lib.frozen_of_heap hb2 1
 obtain ⟨ao,n',cap,rfl⟩ : ∃ ao n' cap,v' = .slice ao n' cap:=by
  rcases hown'.2 with ⟨hv,_⟩ | ⟨g,cap,cur,hv,_⟩
  · exact ⟨_,_,_,hv⟩
  · exact ⟨_,_,_,hv⟩
 go_wp2
 go_ret2
 refine ⟨rfl,.inr ?_,?_⟩
 · exact Lib.BuilderAt.put (T:=108) (e:=5) hB hb2 (bs':=bs++Lib.strCells s) (by simpa [Lib.strCells_length] using hown') (by decide)
 · exact (hb1.grown hgrow (by have:=hb1.size;omega) (fun k hk=>(hown.lt k hk).1)).setCell (p:=⟨b,1,none⟩) hB _
end
section
open Go.RowKit Go.Sort Go.Maps
set_option maxRecDepth 100000 in
set_option maxHeartbeats 1000000 in
theorem jbytes_any (n k:Nat) (hk:k≤4) (w:World) :
 Calls Tryd.prog 56 #[.int .i64 (n:Int),.int .i64 (k:Int)] w fun e w'=>e = .returned (.string (strOfNums (bytesP n k)))∧Below w.heap.size w w':=by
 have hmk : ∀ W,(Instr.makeSlice 75 (.int .i64 (k:Int)) (.int .i64 (k:Int))).run Tryd.prog W = .ok (.slice (some ⟨W.heap.size,0,none⟩) k k) (W.alloc (.cells (madeCells #[.int .u8 0] k) 5)) :=
  fun W=>run_make_row' (P:=Tryd.prog) 75 5 (.int .u8 0) 1 Tryd.underlying75 (by kernel_rfl) rfl .i64 .i64 k (by omega) (by omega) W
 go_enter Tryd.func56,Tryd.ntmps56
 go_wp2_with fail
 clear hmk
 go_loopw [11] (fun i wr => ∃ j:Nat,j≤k∧i = .int .i64 j∧Bx (wr.rowIs w.heap.size 5 k (fun a=>.int .u8 (if a<j then ((n / 256 ^ a % 256:Nat):Int) else 0)))∧Bx (Below w.heap.size w wr)) (fun i _=>k - (intOf i).toNat)
 case atStart=>exact ⟨0,Nat.zero_le _,rfl,⟨(World.rowIs_made _ _ _ _).congr (fun i _=>rfl)⟩,⟨(Below.refl _ _).alloc (Nat.le_refl _) _⟩⟩
 case round =>
  obtain ⟨j,hj,rfl,hrow,hB⟩:=hrel
  by_cases hlt:j<k
  · have t0:decide ((j:Int)<(k:Int))=true:=by simp;omega
    have hsh:=shr_bytes n j (by omega)
    have hw8:IntKind.u8.wrap ((n / 256 ^ j:Nat):Int)=((n / 256 ^ j % 256:Nat):Int):=by
     rw [IntKind.wrap_u8];omega
    have hw:IntKind.i64.wrap (8 * (j:Int))=8 * (j:Int):=IntWalk.i64_in _ (by omega)
    obtain ⟨y,hy⟩ : ∃ y,y=8 * (j:Int):=⟨_,rfl⟩
    rw [←hy] at hsh
    replace hw:IntKind.i64.wrap (8 * (j:Int))=y:=by rw [hy];exact hw
    clear hy
    obtain ⟨x,hx⟩ : ∃ x,x=n / 256 ^ j % 256:=⟨_,rfl⟩
    rw [←hx] at hw8
    have Hx:=Bx.mk hx
    clear hx
    obtain ⟨q,hq⟩ : ∃ q,q=n / 256 ^ j:=⟨_,rfl⟩
    rw [←hq] at hw8 hsh
    clear hq
    have b1:(0:Int)≤(j:Int):=by omega
    have b2:(j:Int)<(k:Int):=by omega
    have hcell:=hrow.out.cell hlt
    have hfr:=hrow.out.frozen j
    go_wp2_with fail
    have hrow2:=Bx.mk ((hrow.out.set j (.int .u8 (x:Int))).congr (g:=fun a=>.int .u8 (if a<j+1 then ((n / 256 ^ a % 256:Nat):Int) else 0)) (fun a ha=>by
     by_cases e:a=j
     · rw [e];simp only [if_true];rw [if_pos (by omega),Hx.out]
     · simp only [e,if_false];by_cases h5:a<j
       · rw [if_pos h5,if_pos (by omega)]
       · rw [if_neg h5,if_neg (by omega)]))
    have hB2:=Bx.mk (show Below w.heap.size w (wr.setCell ⟨w.heap.size,j,none⟩ (.int .u8 (x:Int))) from hB.out.setCell (Nat.le_refl _) _)
    clear hcell hfr
    go_roundw
    case rel=>exact ⟨j+1,by omega,by go_num,hrow2,hB2⟩
    case measure=>simp [intOf];omega
  · obtain rfl:j=k:=by omega
    have t0:decide ((j:Int)<(j:Int))=false:=by simp
    have hsl:Sl wr .u8 (some ⟨w.heap.size,0,none⟩) (bytesP n j):=fun i x hx=>⟨w.heap.size,0,rfl,by
     have hi:i<j:=by have:=(List.getElem?_eq_some_iff.1 hx).1;rwa [bytes_len] at this
     have:=hrow.out.cell hi
     simp only [hi,if_true] at this
     rw [Nat.zero_add,this]
     rw [bytes_at hi] at hx
     rw [Option.some.inj hx]⟩
    have hcv:=conv_str (P:=Tryd.prog) 75 5 9 Tryd.underlying75 Tryd.underlying5 Tryd.underlying9 hsl j j (bytes_len n j).symm
    clear hsl hrow
    go_wp2_with fail
    go_ret
    exact ⟨rfl,hB.out⟩
theorem shl_eight (n:Nat) (hn:n<16777216):Op.shift .shl .i64 (n:Int) .u64 8=pure (.int .i64 ((n * 256:Nat):Int)):=by
 have:=shift_shl_i64 (x:=(n:Int)) (yk:=.u64) (y:=8) (by omega) (by omega)
 refine this.trans ?_
 rw [show (8:Int).toNat=8 by rfl,show (2:Int) ^ 8=256 by rfl,IntWalk.i64_in _ (by omega)]
 simp
theorem or_eight (n x:Nat) (hn:n<16777216) (hx:x<256):bits .or .i64 ((n * 256:Nat):Int) (x:Int)=((n * 256+x:Nat):Int):=by
 rw [i64_or_nat _ _ (by omega) (by omega)]
 have h2:=Nat.two_pow_add_eq_or_of_lt (i:=8) (b:=x) (by simpa using hx) n
 rw [show n * 256 ||| x=n * 256+x by rw [Nat.mul_comm];exact h2.symm]
theorem numK_drop {t:List Int} {k:Nat} {x:Int} (h:t[k]? = some x):numK (t.drop k)=numK (t.drop (k+1)) * 256+x.toNat:=by
 obtain ⟨hk,hx⟩:=List.getElem?_eq_some_iff.1 h
 rw [List.drop_eq_getElem_cons hk,hx]
 simp only [numK];omega
set_option maxRecDepth 100000 in
set_option maxHeartbeats 1000000 in
theorem jnumber_any (t:List Int) (hb:Byts t) (hl:t.length≤4) (w:World) :
 Calls Tryd.prog 50 #[.string (strOfNums t)] w fun e w'=>e = .returned (.int .i64 (numK t:Nat))∧w'=w:=by
 obtain ⟨n,hn⟩ : ∃ n,n=t.length:=⟨_,rfl⟩
 have hsz:(strOfNums t).size=n:=by rw [strOfNums_size,hn]
 have Hn:=Bx.mk hn
 have Hb:=Bx.mk hb
 rw [←hn] at hl
 have e0:IntKind.i64.wrap ((n:Int) - 1)=(n:Int) - 1:=IntWalk.i64_in _ (by omega)
 clear hn hb
 go_enter Tryd.func50,Tryd.ntmps50
 go_wp2_with fail
 clear e0
 go_loopw [3,4] (fun v3 v4 wr => ∃ k:Nat,k≤n∧v4 = .int .i64 ((k:Int) - 1)∧v3 = .int .i64 (numK (t.drop k):Nat)∧wr=w) (fun _ i _=>(intOf i+1).toNat)
 case atStart=>exact ⟨n,Nat.le_refl _,rfl,by rw [Hn.out,List.drop_length];rfl,rfl⟩
 case round =>
  obtain ⟨k,hk,rfl,rfl,rfl⟩:=hrel
  cases k with
  | succ j =>
    rw [show ((j+1:Nat):Int) - 1=(j:Int) by omega]
    have t0:decide ((j:Int) ≥ 0)=true:=by simp
    obtain ⟨x,hx⟩ : ∃ x,t[j]? = some x:=⟨_,List.getElem?_eq_getElem (by rw [←Hn.out];omega)⟩
    have hxb:=Hb.out x (List.mem_of_getElem? hx)
    obtain ⟨hk2,hget⟩:=str_get Hb.out hx
    have hnk:=numK_lt (l:=t.drop (j+1)) (fun x hx=>Hb.out x (List.mem_of_mem_drop hx))
    have hle:256 ^ (t.drop (j+1)).length≤256 ^ 3:=Nat.pow_le_pow_right (by decide) (by rw [List.length_drop,←Hn.out];omega)
    have hn1:numK (t.drop (j+1))<16777216:=by omega
    have hsh:=shl_eight _ hn1
    have hor:=or_eight _ x.toNat hn1 (by omega)
    have hN:=Bx.mk (numK_drop hx)
    rw [show ((x.toNat:Nat):Int)=x by omega] at hor
    have hx8:IntKind.i64.wrap x=x:=IntWalk.i64_in _ (by omega)
    have e1:IntKind.i64.wrap ((j:Int) - 1)=(j:Int) - 1:=IntWalk.i64_in _ (by omega)
    obtain ⟨n2,hn2⟩ : ∃ n2,n2=numK (t.drop (j+1)) * 256+x.toNat:=⟨_,rfl⟩
    rw [←hn2] at hN hor
    clear hn2 hx hnk hle
    generalize numK (t.drop (j+1))=n1 at *
    generalize n1 * 256=n3 at *
    have b1:(0:Int)≤(j:Int):=by omega
    have b2:(j:Int)<(n:Int):=by omega
    go_wp2_with fail
    go_roundw
    case rel=>exact ⟨j,by omega,rfl,by rw [hN.out],by first | rfl | trivial⟩
    case measure=>simp [intOf]
  | zero =>
    have t0:decide (((0:Nat):Int) - 1 ≥ 0)=false:=by decide
    rw [show ((0:Nat):Int) - 1 = -1 by rfl]
    have t1:decide ((-1:Int) ≥ 0)=false:=by decide
    rw [List.drop_zero]
    go_wp2_with fail
    go_ret
    exact ⟨rfl,rfl⟩
end
section
open Go.RowKit Go.Sort Go.Maps
attribute [local go_sem] Oper.semAt_some
theorem pg_room (k:Nat):Fence.wide.room k:=fun d h=>by cases h
theorem pg_round {m m':Nat} {P:Program} {l:Nat} {f:FuncId} {tmps:Array Value} {assign body:Code} {w:World} {R:Ending→World→Prop}
 (h:RoundIn Fence.wide m P l f tmps assign body w R):RoundIn Fence.wide m' P l f tmps assign body w R:=⟨h.1,fun c cs _=>h.2 c cs (pg_room _)⟩
theorem pg_yield {m:Nat} (m':Nat) {P:Program} {l:Nat} {args:Array Value} {W:World} {R:Ending→World→Prop} (h:YieldAt Fence.wide m P l args W R):YieldAt Fence.wide m' P l args W R:=by
 obtain ⟨fn,tmps,assign,body,hy,hR⟩:=h
 exact ⟨fn,tmps,assign,body,hy,pg_round hR⟩
def rdsP (d:Dk):List (List Int × Int):=(List.range d.p.length).map fun (i:Nat)=>d.read (i:Int)
theorem rdsP_len (d:Dk):(rdsP d).length=d.p.length:=by simp [rdsP]
theorem rdsP_at (d:Dk) {k:Nat} (h:k<d.p.length):(rdsP d)[k]? = some (d.read (k:Int)):=by simp [rdsP,h]
theorem rdsP_succ (d:Dk) {k:Nat} (h:k<d.p.length):(rdsP d).take (k+1)=(rdsP d).take k++[d.read (k:Int)]:=by
 have hk:k<(rdsP d).length:=by rw [rdsP_len];exact h
 rw [List.take_succ_eq_append_getElem hk]
 have:=rdsP_at d h
 rw [List.getElem?_eq_getElem hk] at this
 rw [Option.some.inj this]
abbrev rdArgs (x:List Int × Int):Array Value:=#[.string (strOfNums x.1),.int .i64 x.2]
set_option maxRecDepth 100000 in
set_option maxHeartbeats 4000000 in
theorem all1_any (l bd dp g mb cap m:Nat) (d:Dk) (S:Nat→Prop) (hS : ∀ k,In3 dp g mb k → ¬S k) (hSb : ¬S bd) (J Jx:List (List Int × Int)→World→Prop) (hJ : ∀ s W W',J s W→Below W.heap.size W W'→J s W')
 (W:World) (kd:Bk W bd #[.pointer (some ⟨dp,0,none⟩)] 24) (hd:DkIs W dp g mb cap m d)
 (hY : ∀ n pre x W,x∈rdsP d→J pre W→pre.length<d.p.length→YieldAt Fence.wide n Tryd.prog l (rdArgs x) W fun e W'=>(e = .returned (.bool true)∧J (pre++[x]) W'∧Chg S W W')∨(e = .returned (.bool false)∧Jx (pre++[x]) W')) (h0:J [] W) :
 Calls Tryd.prog 63 #[.func (.yield l) #[] #[],.pointer (some ⟨bd,0,none⟩)] W fun e W'=>(∃ v,e = .returned v)∧(J (rdsP d) W' ∨ ∃ q,q <+: rdsP d∧Jx q W'):=by
 have HKD:=Bx.mk fun W' (h:Chg S W W')=>kd.chg h hSb
 have HD:=Bx.mk fun W' (h:Chg S W W')=>hd.chg h hS
 have hl:=Bx.mk (dklen_any W dp g mb cap m d hd)
 have HR:=Bx.mk fun W' (h:Chg S W W') i=>read_any W' dp g mb cap m d (HD.out W' h) i
 have HY:=Bx.mk hY
 have HJ:=Bx.mk hJ
 have H0:=Bx.mk h0
 have c0:=kd.cell 0 rfl
 have hfew:=hd.ok.few
 obtain ⟨n,hn⟩ : ∃ n,n=d.p.length:=⟨_,rfl⟩
 have Hn:=Bx.mk hn
 rw [←hn] at hl hfew
 clear hS hSb kd hd hY h0 hJ HD hn
 refine (callsIn_wide (n:=3)).1 ?_
 refine callsIn_of_wp Tryd.func63 rfl trivial ?_ rfl
 simp only [Tryd.ntmps63,List.size_toArray,List.length_cons,List.length_nil,Nat.reduceAdd,Nat.reduceSub,Array.replicate_succ,Array.replicate_zero,List.push_toArray,List.append_toArray,List.nil_append,List.cons_append]
 gi_wp2_with ((try refine ⟨trivial,?_⟩);gi_at_call 38;refine (callsIn_wide.2 hl.out).mono ?_;rintro _ _ ⟨rfl,rfl⟩)
 clear c0
 gi_loopw [6] (fun v6 wr => ∃ k:Nat,k≤n∧v6 = .int .i64 k∧Bx (J ((rdsP d).take k) wr)∧Bx (Chg S W wr)) (fun i _=>n - (intOf i).toNat)
 case atStart=>exact ⟨0,Nat.zero_le _,rfl,⟨by simpa using H0.out⟩,⟨Chg.refl _ _⟩⟩
 case round =>
  obtain ⟨k,hk,rfl,HI,HC⟩:=hrel
  by_cases hlt:k<n
  · have t0:decide ((k:Int)<(n:Int))=true:=by simp;omega
    have c0:=(HKD.out wr HC.out).cell 0 rfl
    have hr:=Bx.mk (HR.out wr HC.out (k:Int))
    have hsu:=Bx.mk (rdsP_succ d (show k<d.p.length by rw [←Hn.out];exact hlt))
    have hxm:=Bx.mk (List.mem_of_getElem? (rdsP_at d (show k<d.p.length by rw [←Hn.out];exact hlt)))
    generalize hx:d.read (k:Int)=x at *
    have hlen:((rdsP d).take k).length<d.p.length:=by rw [List.length_take,rdsP_len,←Hn.out];omega
    have HLn:=Bx.mk hlen
    clear hlen hx
    gi_upto_region 3 with fail
    gi_wp2_with ((try refine ⟨trivial,?_⟩);gi_at_call 48;refine (callsIn_wide.2 hr.out).mono ?_;rintro _ w2 ⟨rfl,hb2⟩;obtain ⟨fn,tmps,assign,body,hy,hYr⟩:=HY.out 3 _ x w2 hxm.out (HJ.out _ _ _ HI.out hb2) HLn.out;replace hYr:=Bx.mk hYr;have HB2:=Bx.mk hb2;clear hb2)
    refine (pg_round hYr.out).mono ?_
    rintro e w3 (⟨rfl,hj,hc⟩ | ⟨rfl,hj⟩)
    · rw [←hsu.out] at hj
      have HJ3:=Bx.mk hj
      have HC3:=Bx.mk ((HC.out.trans (.ofBelow HB2.out S) fun _ _ h=>h).trans hc fun _ _ h=>h)
      clear hj hc hYr hy hr c0 HB2 HI HC hsu HLn
      gi_wp2
      go_roundw
      case rel=>exact ⟨k+1,by omega,by go_num,HJ3,HC3⟩
      case measure=>simp [intOf];omega
    · rw [←hsu.out] at hj
      have HJ3:=Bx.mk hj
      clear hj hYr hy hr c0 HB2 HI HC hsu HLn
      gi_wp2
      exact ⟨rfl,_,results_none rfl _ _ _,⟨_,rfl⟩,.inr ⟨_,List.take_prefix _ _,HJ3.out⟩⟩
  · obtain rfl:k=n:=by omega
    have t0:decide ((k:Int)<(k:Int))=false:=by simp
    have hall:(rdsP d).take k=rdsP d:=by rw [List.take_of_length_le (by rw [rdsP_len,←Hn.out];omega)]
    rw [hall] at HI
    clear hall
    gi_wp2
    go_end0
    exact ⟨⟨_,rfl⟩,.inl HI.out⟩
theorem all_any (dp:Nat) (w:World):Calls Tryd.prog 39 #[.pointer (some ⟨dp,0,none⟩)] w fun e w'=>e = .returned (.func (.func 63) #[] #[.pointer (some ⟨w.heap.size,0,none⟩)])∧w'=w.alloc (.cells #[.pointer (some ⟨dp,0,none⟩)] 24):=by
 go_enter Tryd.func39,Tryd.ntmps39
 go_wp2_with fail
 go_ret
 exact ⟨rfl,rfl⟩
theorem all_stops (bd dp g mb cap m:Nat) (d:Dk) (S:Nat→Prop) (hS : ∀ k,In3 dp g mb k → ¬S k) (hSb : ¬S bd) (n:Nat) (w:World) (kd:Bk w bd #[.pointer (some ⟨dp,0,none⟩)] 24) (hd:DkIs w dp g mb cap m d) :
 SeqStopsK Fence.wide n Tryd.prog 63 #[.pointer (some ⟨bd,0,none⟩)] (fun x:{ x // x∈rdsP d }=>rdArgs x.1) (Chg S) (fun xs=>xs.map (·.1)=rdsP d) (fun xs=>xs.map (·.1) <+: rdsP d) d.p.length w:=by
 intro l J Jx W hW hJ hJx hY h0
 refine callsIn_wide.2 ?_
 refine (all1_any l bd dp g mb cap m d S hS hSb (fun s W' => ∃ ys:List { x // x∈rdsP d },ys.map (·.1)=s∧J ys W') (fun s W' => ∃ ys:List { x // x∈rdsP d },ys.map (·.1)=s∧Jx ys W') ?_ W (kd.later hW) (hd.later hW) ?_ ⟨[],rfl,h0⟩).mono ?_
 · rintro s A B ⟨ys,hy,hj⟩ hb
   exact ⟨ys,hy,hJ _ _ _ none hj (grown_of_below hb) (fun r e=>by cases e)⟩
 · rintro m' pre x W1 hx ⟨ys,rfl,hj⟩ hl
   rw [List.length_map] at hl
   refine YieldAt.mono (pg_yield m' (hY ys ⟨x,hx⟩ W1 hj hl)) ?_
   rintro e W' (⟨rfl,h1,h2⟩ | ⟨rfl,h1⟩)
   · exact .inl ⟨rfl,⟨_,by simp,h1⟩,h2⟩
   · exact .inr ⟨rfl,⟨_,by simp,h1⟩⟩
 · rintro e W' ⟨hv,⟨ys,hy,hj⟩ | ⟨q,hq,ys,rfl,hj⟩⟩
   · exact ⟨hv,.inl ⟨ys,hy,hj⟩⟩
   · exact ⟨hv,.inr ⟨ys,hq,hj⟩⟩
end
section
open Go.Sort Go.RowKit
theorem pg_upon_in {P:Program} {o:Oper} {a:Act} {next:Act→World→Prop} {Q:Exit→Act→World→Prop} (l n:Nat) {r:Result Next} (h:o.upon P a next Q r):o.uponIn (Fence.wide.inRound l) n P a next Q r:=by
 cases r with
 | ok x w' =>
   cases x with
   | value v=>exact h
   | skip=>exact h
   | defer d=>exact h
   | enter f args=>exact ⟨fun e=>(by cases e),(callsIn_wide.2 h).inRound l⟩
   | row row args=>exact ⟨fun e=>(by cases e),fun c cs _=>by
    obtain ⟨v,w2,r,s⟩:=h c cs
    exact ⟨v,w2,r,stepsIn_wide.2 s⟩⟩
   | round l f tmps assign body=>exact h.elim
   | _=>exact h.elim
 | halt x w' =>
   cases x with
   | panic v=>exact h
   | _=>exact h.elim
section
variable {P:Program} {Q:Exit→Act→World→Prop}
theorem pg_wpOp_in (l n:Nat) {ops:Array Oper} (hnd : ∀ (i:Nat) (o:Oper) (c:Call),ops[i]? = some o→o.op ≠ .defer c) (hLo : ¬LetsOut Q) {i:Nat} {K:Act→World→Prop} {a:Act} {w:World} (h:wpOp P ops Q i K a w):wpOpIn (Fence.wide.inRound l) n P ops Q i K a w:=by
 unfold wpOp at h
 unfold wpOpIn
 split
 · rename_i ho;simpa only [ho] using h
 · rename_i o ho
   simp only [ho] at h
   split
   · rename_i hw
     rw [if_pos hw] at h
     rcases h with h | h
     · refine ⟨fun f _=>trivial,?_⟩
       rw [Fence.inRound_round,Oper.semAt_some l _ _ (fun c=>hnd i o c ho)]
       exact pg_upon_in l n h
     · exact absurd h.2 hLo
   · rename_i hw
     rw [if_neg hw] at h
     exact ⟨fun f _=>trivial,h⟩
theorem pg_wpAny_in (l n:Nat) {ops:Array Oper} {md:Region.Mode} (hnd : ∀ (i:Nat) (o:Oper) (c:Call),ops[i]? = some o→o.op ≠ .defer c) (hLo : ¬LetsOut Q) : ∀ (fuel:Nat) (listed:Array Bool) (a:Act) (w:World),wpAny P md ops Q fuel listed a w→wpAnyIn (Fence.wide.inRound l) n P md ops Q fuel listed a w
 | 0,_,_,_,h=>h
 | fuel+1,listed,a,w,h=>⟨h.1,fun i hi=>wpOpIn_mono (fun a' w' h'=>pg_wpAny_in l n hnd hLo fuel _ a' w' h') (pg_wpOp_in l n hnd hLo (h.2 i hi))⟩
def pg_noDefer (l:List Oper):Bool:=l.all fun o=>match o.op with | .defer _=>false | _=>true
theorem pg_noDefer_spec {l:List Oper} (h:pg_noDefer l=true) (i:Nat) (o:Oper) (c:Call) (ho:l.toArray[i]? = some o):o.op ≠ .defer c:=by
 intro e
 have hm:o∈l:=List.mem_of_getElem? (by simpa using ho)
 have:=List.all_eq_true.1 h o hm
 rw [e] at this
 cases this
theorem wpIn_region_relM {l:List Oper} {W:World} {a:Act} {id:Nat} (lo k:Nat) (n:Nat) (R:Nat→Value→World→Prop) (hm:P.follows .mixedOrders=true) (hB:headRT l n=true) (hnd:pg_noDefer l=true) (hLo : ¬LetsOut Q) (m:Nat) (hdm:dstB l m=true) (ham:a.tmps.size=m)
 (hf : ∀ i,i<n→Firm (R i))
 (hop : ∀ i o,i<n→l[i]? = some o → ∀ (ρ:Operand→Value) w,Below W.heap.size W w→(∀ v,ρ (.const v)=v)→(∀ g,ρ (.global g) = .pointer (some ⟨g,0,none⟩))→(∀ f,ρ (.func f) = .func (.func f) #[] #[]) →
  (∀ d,.tmp d∈o.op.operands→Known l n R a d (ρ (.tmp d)) w)→relUpon P w (R i) ((execOp ρ o).run P w))
 (h : ∀ (vs:List Value) w',vs.length=n→Below W.heap.size W w'→(∀ i v,vs[i]? = some v→R i v w')→wpList P l.toArray Q (l.drop n) (puts (((l.take n).map (·.dst)).zip vs) a) w'):(Code.region id l.toArray true).wpIn (Fence.wide.inRound lo) k P Q a W :=
 wpIn_region_any hm (pg_wpAny_in lo k (pg_noDefer_spec hnd) hLo _ _ _ _ (any_relT n R hB m hdm ham hf hop h))
end
end
section
open Go.RowKit Go.Sort Go.Maps
def mxP (l:List (List Int)):Nat:=l.foldl (fun m s=>max m (numOf s)) 0
theorem mxP_snoc (l:List (List Int)) (s:List Int):mxP (l++[s])=max (mxP l) (numOf s):=by unfold mxP;rw [List.foldl_append];rfl
def imgR (im:List (List Int)):List (List Int):=applyW im ((targetsP im).mapIdx fun j x=>(17+x,im.getD (1+j) []))
def badP (im:List (List Int)) (k:Nat):List Nat:=(List.range k).filter fun i=>decide (¬goodP (im.getD (17+i) []))
theorem badP_succ (im:List (List Int)) (k:Nat):badP im (k+1)=badP im k++(if goodP (im.getD (17+k) []) then [] else [k]):=by
 unfold badP
 rw [List.range_succ,List.filter_append]
 congr 1
 by_cases h:goodP (im.getD (17+k) [])
 · rw [if_pos h];simp only [List.filter_cons,List.filter_nil];rw [if_neg (by simpa using h)]
 · rw [if_neg h];simp only [List.filter_cons,List.filter_nil];rw [if_pos (by simpa using h)]
theorem badP_len (im:List (List Int)) (k:Nat):(badP im k).length≤k:=by
 unfold badP
 exact Nat.le_trans (List.length_filter_le _ _) (by simp)
theorem rdsP_on {d:Dk} (h:d.off=false):rdsP d=(nowI d).map fun s=>(s,0):=by
 apply List.ext_getElem?
 intro i
 by_cases hi:i<d.p.length
 · rw [rdsP_at d hi]
   unfold nowI
   rw [List.getElem?_map,List.getElem?_map,List.getElem?_eq_getElem hi]
   unfold Dk.read
   rw [if_neg (by rw [h];decide),if_neg (by simp [Dk.is];omega)]
   rw [show ((i:Nat):Int).toNat=i by omega,List.getElem?_eq_getElem hi]
   rfl
 · rw [List.getElem?_eq_none (by rw [rdsP_len];omega),List.getElem?_eq_none (by simp [nowI];omega)]
def OpS (B pp b5:Nat) (k:Nat):Prop:=k=pp∨k=b5∨B≤k
structure OpI (w0:World) (pp b5 dp:Nat) (im:List (List Int)) (W:World):Prop where
 chg:Chg (OpS w0.heap.size pp b5) w0 W
 kp:PS W pp dp (mxP im) (.slice none 0 0) false
 img : ∃ v,Bk W b5 #[v] 30∧Ownv W w0.heap.size 9 v (strs im)
theorem ownFrom_ownv {β:Type} {B C:Nat} {e:TypeId} {v:Value} {f:β→List Value}:OwnFrom B (fun s W=>Ownv W C e v (f s)):=fun s X Y row hs hg hr=>by
 refine Ownv.grown hs hg ?_
 cases h:v.ownBlock with
 | none=>exact .inl rfl
 | some g =>
   refine .inr fun e=>?_
   obtain ⟨_,o,ho,hc⟩:=hr g e.symm
   rcases hs.2 with ⟨rfl,_⟩ | ⟨g',cap,cur,rfl,_,hg',_⟩
   · cases h
   · injection h with h
     change g'=g at h
     subst h
     rw [hg'] at ho
     obtain rfl:=Option.some.inj ho
     cases hc
theorem ownFrom_bkP {β:Type} {B:Nat} (g:Nat) (f:β→Array Value) (t:TypeId):OwnFrom B (fun s W=>Bk W g (f s) t):=fun s X Y row hs hg hr =>
 (hg.block g (Array.getElem?_eq_some_iff.1 hs).1 (fun e=>by
  obtain ⟨_,o,ho,hc⟩:=hr g e.symm
  rw [show X.heap[g]? = _ from hs] at ho
  obtain rfl:=Option.some.inj ho
  cases hc)).trans hs
theorem OpI.own {β:Type} (w0:World) (pp b5 dp:Nat) (f:β→List (List Int)):OwnFrom w0.heap.size (fun s W=>OpI w0 pp b5 dp (f s) W):=fun s X Y row hs hg hr=>by
 obtain ⟨v,h1,h2⟩:=hs.img
 refine ⟨⟨hg.os.trans hs.chg.os,hg.tape.trans hs.chg.tape,hg.output.trans hs.chg.output,Nat.le_trans hs.chg.size hg.size,fun k hk hn=>?_⟩,?_,v,?_,?_⟩
 · refine (hg.block k (Nat.lt_of_lt_of_le hk hs.chg.size) fun e=>?_).trans (hs.chg.block k hk hn)
   exact hn (.inr (.inr (hr k e.symm).1))
 · exact ownFrom_bkP pp (fun _:Unit=>#[.pointer (some ⟨dp,0,none⟩),.int .i64 (mxP (f s):Int),.slice none 0 0,.bool false]) _ () X Y row hs.kp hg hr
 · exact ownFrom_bkP b5 (fun _:Unit=>#[v]) _ () X Y row h1 hg hr
 · exact ownFrom_ownv (f:=fun _:Unit=>strs (f s)) () X Y row h2 hg hr
theorem keepsFrom_chg {B:Nat} {W W':World} {S:Nat→Prop} (h:Chg S W W') (hc : ∀ k o,B≤k→S k→W.heap[k]? = some o→o.isCells=false→W'.heap[k]? = some o):KeepsFrom B W W':=by
 refine ⟨h.size,fun k o hB hk ho=>?_⟩
 by_cases hS:S k
 · exact hc k o hB hS hk ho
 · exact (h.block k (Array.getElem?_eq_some_iff.1 hk).1 hS).trans hk
theorem OpI.next {w0 W W3 W6:World} {pp b5 dp:Nat} {im:List (List Int)} (h:OpI w0 pp b5 dp im W) (hpp:pp<w0.heap.size) (h5:b5<w0.heap.size) (hne:pp ≠ b5) {v:Value} (hv:Bk W b5 #[v] 30) (hown:Ownv W w0.heap.size 9 v (strs im))
 (hb:Below W.heap.size W W3) (s:List Int) (cs:Array Value) (t:TypeId) {v':Value} (g1:Ownv W6 w0.heap.size 9 v' (strs im++[.string (strOfNums s)])) (g2:((W3.setCell ⟨pp,1,none⟩ (.int .i64 (mxP (im++[s]):Int))).alloc (.cells cs t)).grownBy W6 v.ownBlock) :
 OpI w0 pp b5 dp (im++[s]) (W6.setCell ⟨b5,0,none⟩ v')∧KeepsFrom w0.heap.size W (W6.setCell ⟨b5,0,none⟩ v')∧Chg (OpS w0.heap.size pp b5) W (W6.setCell ⟨b5,0,none⟩ v'):=by
 have hvl : ∀ g,v.ownBlock=some g→w0.heap.size≤g∧g<W.heap.size:=hown.lt
 have e1:Chg (OpS w0.heap.size pp b5) W (W3.setCell ⟨pp,1,none⟩ (.int .i64 (mxP (im++[s]):Int))):=(Chg.ofBelow hb _).setCell (.inl (.inl rfl)) _
 have hsz3:W.heap.size≤(W3.setCell ⟨pp,1,none⟩ (.int .i64 (mxP (im++[s]):Int))).heap.size:=e1.size
 have e2:Chg (OpS w0.heap.size pp b5) W ((W3.setCell ⟨pp,1,none⟩ (.int .i64 (mxP (im++[s]):Int))).alloc (.cells cs t)):=e1.later ((Below.refl _ _).alloc (Nat.le_refl _) _) hsz3
 have e3:Chg (OpS w0.heap.size pp b5) W W6:=⟨g2.os.trans e2.os,g2.tape.trans e2.tape,g2.output.trans e2.output,Nat.le_trans e2.size g2.size,fun k hk hn=>(g2.block k (Nat.lt_of_lt_of_le hk e2.size) fun e=>hn (.inr (.inr (hvl k e.symm).1))).trans (e2.block k hk hn)⟩
 have e4:Chg (OpS w0.heap.size pp b5) W (W6.setCell ⟨b5,0,none⟩ v'):=e3.setCell (.inl (.inr (.inl rfl))) _
 have hk5:Bk W3 b5 #[v] 30:=hv.later hb
 have hkp:PS W3 pp dp (mxP im) (.slice none 0 0) false:=h.kp.later hb
 have hp4:Bk (W3.setCell ⟨pp,1,none⟩ (.int .i64 (mxP (im++[s]):Int))) pp #[.pointer (some ⟨dp,0,none⟩),.int .i64 (mxP (im++[s]):Int),.slice none 0 0,.bool false] 81:=by simpa using Bk.set hkp 1 (.int .i64 (mxP (im++[s]):Int))
 have hp5:=hp4.alloc (.cells cs t)
 have hp6:Bk W6 pp _ _:=(g2.block pp hp5.lt (fun e=>by have:=(hvl pp e.symm).1;omega)).trans hp5
 have hb5:=(hk5.other ⟨pp,1,none⟩ (.int .i64 (mxP (im++[s]):Int)) (fun e=>hne e.symm)).alloc (.cells cs t)
 have hb6:Bk W6 b5 _ _:=(g2.block b5 hb5.lt (fun e=>by have:=(hvl b5 e.symm).1;omega)).trans hb5
 refine ⟨⟨h.chg.trans e4 fun _ _ h=>h,hp6.other _ _ hne,v',by simpa using hb6.set 0 v',?_⟩,keepsFrom_chg e4 fun k o hB hS ho hc=>?_,e4⟩
 · rw [←strs_snoc] at g1
   exact Ownv.grown g1 (grown_setCell W6 ⟨b5,0,none⟩ v') (by
    cases hx:v'.ownBlock with
    | none=>exact .inl rfl
    | some g =>
      refine .inr fun e=>?_
      injection e with e
      have:=(g1.lt g hx).1
      simp only at e;omega)
 · rcases hS with rfl | rfl | _
   · omega
   · omega
   · -- a block that holds no cells
     have hk:=(Array.getElem?_eq_some_iff.1 ho).1
     have n5:k ≠ b5:=by omega
     rw [heap_setCell_other W6 ⟨b5,0,none⟩ k v' n5]
     have nr:some k ≠ v.ownBlock:=fun e=>by
      rcases hown.2 with ⟨rfl,_⟩ | ⟨g',cap,cur,rfl,_,hg',_⟩
      · cases e
      · injection e with e
        change k=g' at e
        subst e
        rw [hg'] at ho
        obtain rfl:=Option.some.inj ho
        cases hc
     have hk3:k<W3.heap.size:=Nat.lt_of_lt_of_le hk hb.size
     rw [g2.block k (Nat.lt_of_lt_of_le hk e2.size) nr]
     rw [heap_alloc_old _ _ (Nat.lt_of_lt_of_le hk hsz3),heap_setCell_other W3 ⟨pp,1,none⟩ k _ (by simp only;omega),hb.block k hk]
     exact ho
theorem pg_append_in {F:Fence} {n:Nat} {P:Program} (w:World) {ops:Array Oper} {rest:List Oper} {o:Oper} {a:Act} {Q:Exit→Act→World→Prop} (hgd:o.guard=none) (s x:Operand) (t:TypeId)
 (ho:o.op = .call { callee:=.builtin .append,args:=#[s,x],argTypes:=#[t,t] })
 (e:TypeId) (z:Value) (bytes:Nat) (hbz:bytes≤24) (ht:P.underlying t=some (.slice e))
 (hi:(P.info? e).map (fun i=>(i.zero,i.size,i.bytes))=some (some z,1,bytes)) (hzs:z.cells.size=1)
 (B:Nat) (v:Value) (vs:List Value) (hs:a.eval s=v) (hown:Ownv w B e v vs) (u:Value) (hu1:u.oneCell'=true)
 (ad:Addr) (c:Nat) (hx:a.eval x = .slice (some ad) 1 c) (hcell:w.cell? ad=some u) (hlen:vs.length≤1000000000) (hbase:B≤w.heap.size)
 (h : ∀ v' w',Ownv w' B e v' (vs++[u])→w.grownBy w' v.ownBlock→wpListIn F n P ops Q rest (a.put o.dst v') w') :
 wpListIn F n P ops Q (o::rest) a w:=by
 obtain ⟨i0,hi0,hz0,hz1,hz2⟩:=info_parts hi
 refine wpListIn_append_own w hgd s x t ho B e i0 z 1 bytes ht hi0 hz0 hz1 hz2 hzs (by omega) v vs.length vs hs hown ad 1 c [u] hx rfl (fun j u' hu=>?_) (by simpa using hu1)
  (by simp only [maxLen];omega) (by have:(vs.length+1) * bytes≤(vs.length+1) * 24:=Nat.mul_le_mul_left _ hbz;omega) hbase (fun v' w' h2 h3 _=>h v' w' (by unfold Ownv;simpa using h2) h3)
 match j with
 | 0=>simp at hu;subst hu;simpa [Addr.add] using hcell
 | j+1=>simp at hu
end
end Go.Proofs.YtajhkncolbgkbaaDoor
