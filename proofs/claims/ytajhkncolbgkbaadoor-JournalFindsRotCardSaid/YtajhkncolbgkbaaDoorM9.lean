/- Op, Pgr, Jbl, Jby, Pal, RlM: joined by program, for one claim. -/
import Derived.Test.YtajhkncolbgkbaaDoorM8
import Derived.Deep.RegionLaw
import Derived.Maps.AppendAt
import Derived.Deep.AppendLies
import Derived.Test.YtajhkncolbgkbaaDoorM4
import Derived.Test.YtajhkncolbgkbaaDoorM5
import Derived.RangeFuncNested
import Derived.RangeFuncBound
import Derived.RangeFuncCalls
import Derived.RangeFuncLeaves
import Derived.Shelf.Abstract
import Derived.Shelf.RegionOpen
import Derived.WalkKit
import Derived.OwnWalkIn
import Derived.TacticsInMore
import Derived.LoopNIn
import Derived.LoopIn
import Derived.Test.YtajhkncolbgkbaaDoorM2
import Derived.OrdersIn
set_option linter.unusedVariables false
set_option linter.unusedSimpArgs false
namespace Go.Proofs.YtajhkncolbgkbaaDoor
section
open Go.RowKit Go.Sort
theorem write_any (w:World) (p g mb cap m:Nat) (d:Dk) (h:DkIs w p g mb cap m d) (hm:m<1000000) (i at_:Int) (s:List Int) (hs:Byt s) (hl:s.length≤300) (hat : -9223372036854775808≤at_∧at_≤9223372036854775807) :
 Calls Tryd.prog 67 #[.pointer (some ⟨p,0,none⟩),.int .i64 i,.int .i64 at_,.string (strOfNums s)] w (WritePost p g mb cap (m+1) w (d.write i at_ s).1 (d.write i at_ s).2):=by
 unfold Dk.write eDown eArg
 by_cases ho:d.off=true
 · rw [if_pos ho]
   have:=write_bad w p g mb cap m d h i at_ s hl hat (.inl ho)
   rw [if_pos ho] at this
   exact this.mono fun e w' ⟨h1,h2,h3⟩=>⟨h1,h2.mono (by omega),h3⟩
 · rw [if_neg ho]
   by_cases hb:(d.is i && decide (0≤at_) && decide (at_≤128) && decide ((s.length:Int)≤128 - at_))=false
   · rw [if_pos hb]
     have:=write_bad w p g mb cap m d h i at_ s hl hat (.inr hb)
     rw [if_neg ho] at this
     exact this.mono fun e w' ⟨h1,h2,h3⟩=>⟨h1,h2.mono (by omega),h3⟩
   · rw [if_neg hb]
     rw [Bool.not_eq_false] at hb
     simp only [Bool.and_eq_true,decide_eq_true_eq] at hb
     obtain ⟨⟨⟨hi,h0⟩,h1⟩,h2⟩:=hb
     obtain ⟨k,x,rfl,hx⟩:=is_at hi
     obtain ⟨j,rfl⟩:=Int.eq_ofNat_of_zero_le h0
     have hof:d.off=false:=by simpa using ho
     by_cases hst:d.step.2=false
     · rw [if_pos hst]
       exact (write_down w p g mb cap m d h k j s hof hi (by omega) hst).mono fun e w' ⟨h1,h2,h3⟩=>⟨h1,h2.mono (by omega),h3⟩
     · rw [if_neg hst]
       have:=write_ok w p g mb cap m d h hm k j x hx s hs hof (by omega) (by simpa using hst)
       rw [step_p] at this
       exact this
theorem flush_any (w:World) (p g mb cap m:Nat) (d:Dk) (h:DkIs w p g mb cap m d) :
 Calls Tryd.prog 43 #[.pointer (some ⟨p,0,none⟩)] w (WritePost p g mb cap m w d.flush.1 d.flush.2):=by
 unfold Dk.flush eDown
 by_cases ho:d.off=true
 · rw [if_pos ho];exact flush_off w p g mb cap m d h ho
 · rw [if_neg ho]
   have hof:d.off=false:=by simpa using ho
   by_cases hst:d.step.2=false
   · rw [if_pos hst];exact flush_down w p g mb cap m d h hof hst
   · rw [if_neg hst]
     have:=flush_ok w p g mb cap m d h hof (by simpa using hst)
     rw [step_p] at this
     exact this
theorem rot_any (w:World) (p g mb cap m:Nat) (d:Dk) (h:DkIs w p g mb cap m d) (i bit:Int) :
 Calls Tryd.prog 31 #[.pointer (some ⟨p,0,none⟩),.int .i64 i,.int .i64 bit] w (WritePost p g mb cap m w (d.rot i bit).1 (d.rot i bit).2):=by
 unfold Dk.rot eArg
 by_cases hb:(d.is i && decide (0≤bit) && decide (bit<1024))=false
 · rw [if_pos hb];exact rot_bad w p g mb cap m d h i bit hb
 · rw [if_neg hb]
   rw [Bool.not_eq_false] at hb
   simp only [Bool.and_eq_true,decide_eq_true_eq] at hb
   obtain ⟨⟨hi,h0⟩,h1⟩:=hb
   obtain ⟨k,x,rfl,hx⟩:=is_at hi
   obtain ⟨j,rfl⟩:=Int.eq_ofNat_of_zero_le h0
   exact rot_ok w p g mb cap m d h k j x hx (by omega)
structure Opn where
 kind:Int
 i:Int
 at_:Int
 text:List Int
 a:Option Addr
 c:Nat
 picks:List Int
def Opn.v (x:Opn):Value:=.agg #[.int .i64 x.kind,.int .i64 x.i,.int .i64 x.at_,.string (strOfNums x.text),.slice x.a x.picks.length x.c]
theorem Chg.after {S:Nat→Prop} {w w1 w':World} {B:Nat} (hb:Below B w w1) (hB:B=w.heap.size) (h:Chg S w1 w'):Chg S w w':=by
 subst hB
 exact (Chg.ofBelow hb S).trans h (fun _ _ e=>e)
end
section
open Go.RowKit Go.Sort Go.Maps
def PS (w:World) (pp dp N:Nat) (bv:Value) (cl:Bool):Prop:=Bk w pp #[.pointer (some ⟨dp,0,none⟩),.int .i64 (N:Int),bv,.bool cl] 81
theorem PS.later {w w':World} {pp dp N:Nat} {bv:Value} {cl:Bool} (h:PS w pp dp N bv cl) (hb:Below w.heap.size w w'):PS w' pp dp N bv cl:=Bk.later h hb
theorem read_byts {d:Dk} (h:DkOk d) (i:Int):Byts (d.read i).1∧(d.read i).1.length≤128:=by
 unfold Dk.read
 split
 · exact ⟨(fun x hx=>by cases hx),Nat.zero_le _⟩
 · split
   · exact ⟨(fun x hx=>by cases hx),Nat.zero_le _⟩
   · cases e:d.p[i.toNat]? with
     | none=>exact ⟨(fun x hx=>by cases hx),Nat.zero_le _⟩
     | some x =>
       have:=(h.pages x (List.mem_of_getElem? e)).now
       exact ⟨this.2,by show x.now.length≤128;omega⟩
def readP (d:Dk) (cl:Bool) (i:Int):List Int × Int :=
 if cl=true then ([],20) else if i<0∨(d.p.length:Int) - 17≤i then ([],1) else if (d.read (17+i)).2 ≠ 0 then ([],(d.read (17+i)).2) else if goodP (d.read (17+i)).1 then (dataP (d.read (17+i)).1,0) else ([],7)
set_option maxRecDepth 100000 in
set_option maxHeartbeats 1000000 in
theorem plen_any (w:World) (pp dp N g mb cap m:Nat) (bv:Value) (cl:Bool) (d:Dk) (hp:PS w pp dp N bv cl) (h:DkIs w dp g mb cap m d) :
 Calls Tryd.prog 26 #[.pointer (some ⟨pp,0,none⟩)] w fun e w'=>e = .returned (.int .i64 ((d.p.length:Int) - 17))∧w=w':=by
 have c0:=hp.cell 0 rfl
 have hl:=Bx.mk (dklen_any w dp g mb cap m d h)
 have hf:=h.ok.few
 have e1:IntKind.i64.wrap ((d.p.length:Int) - 17)=(d.p.length:Int) - 17:=IntWalk.i64_in _ (by omega)
 clear hp h
 go_enter Tryd.func26,Tryd.ntmps26
 go_wp2_with fail
 refine hl.out.mono ?_
 rintro _ _ ⟨rfl,rfl⟩
 go_wp2_with fail
 go_ret
 exact ⟨rfl,rfl⟩
set_option maxRecDepth 100000 in
set_option maxHeartbeats 2000000 in
theorem pread_any (w:World) (pp dp N g mb cap m:Nat) (bv:Value) (cl:Bool) (d:Dk) (hp:PS w pp dp N bv cl) (h:DkIs w dp g mb cap m d) (i:Int) (hi : -9223372036854775808≤i∧i≤9223372036854775807) :
 Calls Tryd.prog 27 #[.pointer (some ⟨pp,0,none⟩),.int .i64 i] w fun e w'=>e = .returned (.tuple #[.string (strOfNums (readP d cl i).1),.int .i64 (readP d cl i).2])∧Below w.heap.size w w':=by
 have c0:=hp.cell 0 rfl
 have c3:=hp.cell 3 rfl
 have hl:=Bx.mk (plen_any w pp dp N g mb cap m bv cl d hp h)
 have hr:=Bx.mk (read_any w dp g mb cap m d h (17+i))
 have hf:=h.ok.few
 have hbb:=read_byts h.ok (17+i)
 have hu:=Bx.mk fun W=>unseal_any (d.read (17+i)).1 hbb.1 (by omega) W
 clear hp h hbb
 obtain ⟨n,hn⟩ : ∃ n:Int,n=(d.p.length:Int) - 17:=⟨_,rfl⟩
 cases cl with
 | true =>
   have hv:readP d true i=([],20):=rfl
   rw [hv]
   clear hl hr hu hn hv
   go_enter Tryd.func27,Tryd.ntmps27
   go_wp2_with fail
   go_ret2
   exact ⟨rfl,Below.refl _ _⟩
 | false =>
   unfold readP
   rw [if_neg (by decide),←hn]
   rw [←hn] at hl
   by_cases h0:i<0
   · have t0:decide (i<0)=true:=by simpa using h0
     rw [if_pos (.inl h0)]
     clear hl hr hu hn
     go_enter Tryd.func27,Tryd.ntmps27
     go_wp2_with fail
     go_ret2
     exact ⟨rfl,Below.refl _ _⟩
   · have t0:decide (i<0)=false:=by simpa using h0
     by_cases h1:n≤i
     · have t1:decide (i ≥ n)=true:=by simpa using h1
       rw [if_pos (.inr h1)]
       clear hr hu hn
       go_enter Tryd.func27,Tryd.ntmps27
       go_wp2_with fail
       refine hl.out.mono ?_
       rintro _ _ ⟨rfl,rfl⟩
       go_wp2_with fail
       go_ret2
       exact ⟨rfl,Below.refl _ _⟩
     · have t1:decide (i ≥ n)=false:=by simpa using h1
       rw [if_neg (by omega)]
       have e1:IntKind.i64.wrap (17+i)=17+i:=IntWalk.i64_in _ (by omega)
       obtain ⟨q,hq⟩ : ∃ q,q=17+i:=⟨_,rfl⟩
       rw [←hq] at hr hu e1 ⊢
       replace e1:IntKind.i64.wrap (17+i)=q:=by rw [hq] at e1 ⊢; exact e1
       clear hq hn h0 h1 hi
       generalize hrr:d.read q=r at *
       obtain ⟨s,er⟩:=r
       clear hrr
       simp only at hr hu ⊢
       unfold unV at hu
       by_cases h2:er=0
       · subst h2
         rw [if_neg (by simp)]
         by_cases hg:goodP s
         · rw [if_pos hg]
           rw [decide_eq_true hg] at hu
           have hd:datOf s=dataP s:=by unfold datOf;rw [if_pos hg]
           rw [hd] at hu
           clear hg hd
           go_enter Tryd.func27,Tryd.ntmps27
           go_wp2_with fail
           refine hl.out.mono ?_
           rintro _ _ ⟨rfl,rfl⟩
           go_wp2_with fail
           refine hr.out.mono ?_
           rintro _ w1 ⟨rfl,hb1⟩
           have HB1:=Bx.mk hb1
           clear hb1 c0 c3
           go_wp2_with fail
           refine (hu.out _).mono ?_
           rintro _ w2 ⟨rfl,hb2⟩
           have HB2:=Bx.mk (HB1.out.trans (hb2.mono HB1.out.size))
           clear hb2
           go_wp2_with fail
           go_ret2
           exact ⟨rfl,HB2.out⟩
         · rw [if_neg hg]
           rw [decide_eq_false hg] at hu
           clear hg
           go_enter Tryd.func27,Tryd.ntmps27
           go_wp2_with fail
           refine hl.out.mono ?_
           rintro _ _ ⟨rfl,rfl⟩
           go_wp2_with fail
           refine hr.out.mono ?_
           rintro _ w1 ⟨rfl,hb1⟩
           have HB1:=Bx.mk hb1
           clear hb1 c0 c3
           go_wp2_with fail
           refine (hu.out _).mono ?_
           rintro _ w2 ⟨rfl,hb2⟩
           have HB2:=Bx.mk (HB1.out.trans (hb2.mono HB1.out.size))
           clear hb2
           go_wp2_with fail
           go_ret2
           exact ⟨rfl,HB2.out⟩
       · rw [if_pos h2]
         have n1:(er != 0)=true:=by simpa using h2
         have n2:(er == 0)=false:=by simpa using h2
         clear h2 hu
         go_enter Tryd.func27,Tryd.ntmps27
         go_wp2_with fail
         refine hl.out.mono ?_
         rintro _ _ ⟨rfl,rfl⟩
         go_wp2_with fail
         refine hr.out.mono ?_
         rintro _ w1 ⟨rfl,hb1⟩
         have HB1:=Bx.mk hb1
         clear hb1 c0 c3
         go_wp2_with fail
         go_ret2
         exact ⟨rfl,HB1.out⟩
end
section
open Go.RowKit Go.Sort Go.Maps
theorem jb_size:(Tryd.prog.info? 108).map (·.size)=some 2:=by kernel_rfl
theorem jb_lies:liesAt Tryd.prog Tryd.prog.depth 108 (2 / Tryd.prog.cellsOf 108) 0 108 1=true:=by kernel_rfl
set_option maxRecDepth 100000 in
set_option maxHeartbeats 1000000 in
theorem jb_used (b:Nat) (w:World) (h0:w.cell? ⟨b,0,none⟩=some (.pointer (some ⟨b,0,none⟩))) :
 Calls Tryd.prog 80 #[.pointer (some ⟨b,0,none⟩)] w fun e w'=>e = .returned (.tuple #[])∧w'=w:=by
 obtain ⟨j,hj,_⟩:=Option.map_eq_some_iff.1 jb_size
 go_enter Tryd.func80,Tryd.ntmps80
 go_wp2
 rw [Lib.run_neq_ptr_same w _ Tryd.underlying106 hj]
 go_wp2
 go_end0
 exact ⟨rfl,rfl⟩
set_option maxRecDepth 100000 in
set_option maxHeartbeats 1000000 in
theorem jb_fresh (b:Nat) (w:World) (h0:w.cell? ⟨b,0,none⟩=some (.pointer none)) (hsh:w.shape? b=some (108,2)) (hfz:w.frozen? ⟨b,0,none⟩=false) :
 Calls Tryd.prog 80 #[.pointer (some ⟨b,0,none⟩)] w fun e w'=>e = .returned (.tuple #[])∧w'=w.setCell ⟨b,0,none⟩ (.pointer (some ⟨b,0,none⟩)):=by
 obtain ⟨j,hj,hjs⟩:=Option.map_eq_some_iff.1 jb_size
 go_enter Tryd.func80,Tryd.ntmps80
 go_wp2
 rw [Lib.run_to_unsafe w ⟨b,0,none⟩ Tryd.underlying106 Tryd.underlying145 hj (by rw [hjs];decide) hsh (Nat.zero_lt_succ 1)]
 simp only [Result.andThen]
 rw [Oper.upon_value]
 go_wp2
 rw [run_callFunc_extern Tryd.func91 (by kernel_rfl) (by kernel_rfl) (by kernel_rfl) (e:=Extern.AbiNoEscape.same) (by kernel_rfl)]
 rw [Lib.run_noEscape]
 simp only [Result.andThen]
 rw [Oper.upon_value]
 go_wp2
 rw [Lib.run_from_unsafe w ⟨b,0,none⟩ Tryd.underlying145 Tryd.underlying106 hj hsh jb_lies]
 simp only [Result.andThen]
 rw [Oper.upon_value]
 go_wp2
 go_end0
 exact ⟨rfl,rfl⟩
theorem jb_check (B b:Nat) (bs:List Value) (w:World) (h:Lib.IsBuilder 108 5 B b bs w) :
 Calls Tryd.prog 80 #[.pointer (some ⟨b,0,none⟩)] w fun e w'=>e = .returned (.tuple #[])∧Lib.BuilderAt 108 5 B b (.pointer (some ⟨b,0,none⟩)) bs w'∧Below B w w':=by
 rcases h with h | h
 · refine (jb_fresh b w h.cell0 h.shape h.frozen0).mono ?_
   rintro e w' ⟨rfl,rfl⟩
   exact ⟨rfl,h.used _,(Below.refl B w).setCell (p:=⟨b,0,none⟩) h.1 _⟩
 · refine (jb_used b w h.cell0).mono ?_
   rintro e w' ⟨rfl,rfl⟩
   exact ⟨rfl,h,Below.refl B _⟩
set_option maxRecDepth 100000 in
set_option maxHeartbeats 2000000 in
theorem jb_write (B b:Nat) (bs:List Value) (s:ByteArray) (w:World) (h:Lib.IsBuilder 108 5 B b bs w) (hlen:bs.length+s.size≤140737488355328) (hBw:B≤w.heap.size) :
 Calls Tryd.prog 55 #[.pointer (some ⟨b,0,none⟩),.string s] w fun e w'=>e = .returned (.tuple #[.int .i64 s.size,.nilIface])∧Lib.IsBuilder 108 5 B b (bs++Lib.strCells s) w'∧Below B w w':=by
 obtain ⟨i0,hi,hz0,hz1,hz2⟩:=info_parts (show (Tryd.prog.info? 5).map (fun i=>(i.zero,i.size,i.bytes))=some (some (.int .u8 0),1,1) by kernel_rfl)
 have hck:=Bx.mk (jb_check B b bs w h)
 go_enter Tryd.func55,Tryd.ntmps55
 go_wp2_with fail
 refine hck.out.mono ?_
 rintro _ w1 ⟨rfl,h1,hb1⟩
 obtain ⟨hB,v,hbk,hown,hne⟩:=h1
 have c0:w1.cell? ⟨b,0,none⟩=some (.pointer (some ⟨b,0,none⟩)):=by rw [Lib.cell_of_heap hbk];rfl
 have c1:w1.cell? ⟨b,1,none⟩=some v:=by rw [Lib.cell_of_heap hbk];rfl
 go_wp2_with (at_builtin;refine Lib.wpList_append_own_string _ rfl _ _ 75 9 rfl B 5 i0 Tryd.underlying75 Tryd.underlying9 hi hz0 hz1 hz2 _ _ _ rfl hown s rfl ?c3 ?c4 ?c5 ?_)
 case c3=>unfold maxLen;omega
 case c4=>omega
 case c5=>have:=hb1.size;omega
 intro v' w2 hown' hgrow _
 have hlt:b<w1.heap.size:=(Array.getElem?_eq_some_iff.1 hbk).1
 have hb2:w2.heap[b]? = some (.cells #[.pointer (some ⟨b,0,none⟩),v] 108 (0,0)):=by
  rw [hgrow.block b hlt (fun e=>hne e.symm)]
  exact hbk
 have d0:w2.cell? ⟨b,0,none⟩=some (.pointer (some ⟨b,0,none⟩)):=by rw [Lib.cell_of_heap hb2];rfl
 have d1:w2.cell? ⟨b,1,none⟩=some v:=by rw [Lib.cell_of_heap hb2];rfl
 have f1:w2.frozen? ⟨b,1,none⟩=false:=Lib.frozen_of_heap hb2 1
 obtain ⟨ao,n',cap,rfl⟩ : ∃ ao n' cap,v' = .slice ao n' cap:=by
  rcases hown'.2 with ⟨hv,_⟩ | ⟨g,cap,cur,hv,_⟩
  · exact ⟨_,_,_,hv⟩
  · exact ⟨_,_,_,hv⟩
 go_wp2
 go_ret2
 refine ⟨rfl,.inr ?_,?_⟩
 · exact Lib.BuilderAt.put (T:=108) (e:=5) hB hb2 (bs':=bs++Lib.strCells s) (by simpa [Lib.strCells_length] using hown') (by decide)
 · exact (hb1.grown hgrow (by have:=hb1.size;omega) (fun k hk=>(hown.lt k hk).1)).setCell (p:=⟨b,1,none⟩) hB _
end
section
open Go.RowKit Go.Sort Go.Maps
set_option maxRecDepth 100000 in
set_option maxHeartbeats 1000000 in
theorem jbytes_any (n k:Nat) (hk:k≤4) (w:World) :
 Calls Tryd.prog 56 #[.int .i64 (n:Int),.int .i64 (k:Int)] w fun e w'=>e = .returned (.string (strOfNums (bytesP n k)))∧Below w.heap.size w w':=by
 have hmk : ∀ W,(Instr.makeSlice 75 (.int .i64 (k:Int)) (.int .i64 (k:Int))).run Tryd.prog W = .ok (.slice (some ⟨W.heap.size,0,none⟩) k k) (W.alloc (.cells (madeCells #[.int .u8 0] k) 5)) :=
  fun W=>run_make_row' (P:=Tryd.prog) 75 5 (.int .u8 0) 1 Tryd.underlying75 (by kernel_rfl) rfl .i64 .i64 k (by omega) (by omega) W
 go_enter Tryd.func56,Tryd.ntmps56
 go_wp2_with fail
 clear hmk
 go_loopw [11] (fun i wr => ∃ j:Nat,j≤k∧i = .int .i64 j∧Bx (wr.rowIs w.heap.size 5 k (fun a=>.int .u8 (if a<j then ((n / 256 ^ a % 256:Nat):Int) else 0)))∧Bx (Below w.heap.size w wr)) (fun i _=>k - (intOf i).toNat)
 case atStart=>exact ⟨0,Nat.zero_le _,rfl,⟨(World.rowIs_made _ _ _ _).congr (fun i _=>rfl)⟩,⟨(Below.refl _ _).alloc (Nat.le_refl _) _⟩⟩
 case round =>
  obtain ⟨j,hj,rfl,hrow,hB⟩:=hrel
  by_cases hlt:j<k
  · have t0:decide ((j:Int)<(k:Int))=true:=by simp;omega
    have hsh:=shr_bytes n j (by omega)
    have hw8:IntKind.u8.wrap ((n / 256 ^ j:Nat):Int)=((n / 256 ^ j % 256:Nat):Int):=by
     rw [IntKind.wrap_u8];omega
    have hw:IntKind.i64.wrap (8 * (j:Int))=8 * (j:Int):=IntWalk.i64_in _ (by omega)
    obtain ⟨y,hy⟩ : ∃ y,y=8 * (j:Int):=⟨_,rfl⟩
    rw [←hy] at hsh
    replace hw:IntKind.i64.wrap (8 * (j:Int))=y:=by rw [hy];exact hw
    clear hy
    obtain ⟨x,hx⟩ : ∃ x,x=n / 256 ^ j % 256:=⟨_,rfl⟩
    rw [←hx] at hw8
    have Hx:=Bx.mk hx
    clear hx
    obtain ⟨q,hq⟩ : ∃ q,q=n / 256 ^ j:=⟨_,rfl⟩
    rw [←hq] at hw8 hsh
    clear hq
    have b1:(0:Int)≤(j:Int):=by omega
    have b2:(j:Int)<(k:Int):=by omega
    have hcell:=hrow.out.cell hlt
    have hfr:=hrow.out.frozen j
    go_wp2_with fail
    have hrow2:=Bx.mk ((hrow.out.set j (.int .u8 (x:Int))).congr (g:=fun a=>.int .u8 (if a<j+1 then ((n / 256 ^ a % 256:Nat):Int) else 0)) (fun a ha=>by
     by_cases e:a=j
     · rw [e];simp only [if_true];rw [if_pos (by omega),Hx.out]
     · simp only [e,if_false];by_cases h5:a<j
       · rw [if_pos h5,if_pos (by omega)]
       · rw [if_neg h5,if_neg (by omega)]))
    have hB2:=Bx.mk (show Below w.heap.size w (wr.setCell ⟨w.heap.size,j,none⟩ (.int .u8 (x:Int))) from hB.out.setCell (Nat.le_refl _) _)
    clear hcell hfr
    go_roundw
    case rel=>exact ⟨j+1,by omega,by go_num,hrow2,hB2⟩
    case measure=>simp [intOf];omega
  · obtain rfl:j=k:=by omega
    have t0:decide ((j:Int)<(j:Int))=false:=by simp
    have hsl:Sl wr .u8 (some ⟨w.heap.size,0,none⟩) (bytesP n j):=fun i x hx=>⟨w.heap.size,0,rfl,by
     have hi:i<j:=by have:=(List.getElem?_eq_some_iff.1 hx).1;rwa [bytes_len] at this
     have:=hrow.out.cell hi
     simp only [hi,if_true] at this
     rw [Nat.zero_add,this]
     rw [bytes_at hi] at hx
     rw [Option.some.inj hx]⟩
    have hcv:=conv_str (P:=Tryd.prog) 75 5 9 Tryd.underlying75 Tryd.underlying5 Tryd.underlying9 hsl j j (bytes_len n j).symm
    clear hsl hrow
    go_wp2_with fail
    go_ret
    exact ⟨rfl,hB.out⟩
theorem shl_eight (n:Nat) (hn:n<16777216):Op.shift .shl .i64 (n:Int) .u64 8=pure (.int .i64 ((n * 256:Nat):Int)):=by
 have:=shift_shl_i64 (x:=(n:Int)) (yk:=.u64) (y:=8) (by omega) (by omega)
 refine this.trans ?_
 rw [show (8:Int).toNat=8 by rfl,show (2:Int) ^ 8=256 by rfl,IntWalk.i64_in _ (by omega)]
 simp
theorem or_eight (n x:Nat) (hn:n<16777216) (hx:x<256):bits .or .i64 ((n * 256:Nat):Int) (x:Int)=((n * 256+x:Nat):Int):=by
 rw [i64_or_nat _ _ (by omega) (by omega)]
 have h2:=Nat.two_pow_add_eq_or_of_lt (i:=8) (b:=x) (by simpa using hx) n
 rw [show n * 256 ||| x=n * 256+x by rw [Nat.mul_comm];exact h2.symm]
theorem numK_drop {t:List Int} {k:Nat} {x:Int} (h:t[k]? = some x):numK (t.drop k)=numK (t.drop (k+1)) * 256+x.toNat:=by
 obtain ⟨hk,hx⟩:=List.getElem?_eq_some_iff.1 h
 rw [List.drop_eq_getElem_cons hk,hx]
 simp only [numK];omega
set_option maxRecDepth 100000 in
set_option maxHeartbeats 1000000 in
theorem jnumber_any (t:List Int) (hb:Byts t) (hl:t.length≤4) (w:World) :
 Calls Tryd.prog 50 #[.string (strOfNums t)] w fun e w'=>e = .returned (.int .i64 (numK t:Nat))∧w'=w:=by
 obtain ⟨n,hn⟩ : ∃ n,n=t.length:=⟨_,rfl⟩
 have hsz:(strOfNums t).size=n:=by rw [strOfNums_size,hn]
 have Hn:=Bx.mk hn
 have Hb:=Bx.mk hb
 rw [←hn] at hl
 have e0:IntKind.i64.wrap ((n:Int) - 1)=(n:Int) - 1:=IntWalk.i64_in _ (by omega)
 clear hn hb
 go_enter Tryd.func50,Tryd.ntmps50
 go_wp2_with fail
 clear e0
 go_loopw [3,4] (fun v3 v4 wr => ∃ k:Nat,k≤n∧v4 = .int .i64 ((k:Int) - 1)∧v3 = .int .i64 (numK (t.drop k):Nat)∧wr=w) (fun _ i _=>(intOf i+1).toNat)
 case atStart=>exact ⟨n,Nat.le_refl _,rfl,by rw [Hn.out,List.drop_length];rfl,rfl⟩
 case round =>
  obtain ⟨k,hk,rfl,rfl,rfl⟩:=hrel
  cases k with
  | succ j =>
    rw [show ((j+1:Nat):Int) - 1=(j:Int) by omega]
    have t0:decide ((j:Int) ≥ 0)=true:=by simp
    obtain ⟨x,hx⟩ : ∃ x,t[j]? = some x:=⟨_,List.getElem?_eq_getElem (by rw [←Hn.out];omega)⟩
    have hxb:=Hb.out x (List.mem_of_getElem? hx)
    obtain ⟨hk2,hget⟩:=str_get Hb.out hx
    have hnk:=numK_lt (l:=t.drop (j+1)) (fun x hx=>Hb.out x (List.mem_of_mem_drop hx))
    have hle:256 ^ (t.drop (j+1)).length≤256 ^ 3:=Nat.pow_le_pow_right (by decide) (by rw [List.length_drop,←Hn.out];omega)
    have hn1:numK (t.drop (j+1))<16777216:=by omega
    have hsh:=shl_eight _ hn1
    have hor:=or_eight _ x.toNat hn1 (by omega)
    have hN:=Bx.mk (numK_drop hx)
    rw [show ((x.toNat:Nat):Int)=x by omega] at hor
    have hx8:IntKind.i64.wrap x=x:=IntWalk.i64_in _ (by omega)
    have e1:IntKind.i64.wrap ((j:Int) - 1)=(j:Int) - 1:=IntWalk.i64_in _ (by omega)
    obtain ⟨n2,hn2⟩ : ∃ n2,n2=numK (t.drop (j+1)) * 256+x.toNat:=⟨_,rfl⟩
    rw [←hn2] at hN hor
    clear hn2 hx hnk hle
    generalize numK (t.drop (j+1))=n1 at *
    generalize n1 * 256=n3 at *
    have b1:(0:Int)≤(j:Int):=by omega
    have b2:(j:Int)<(n:Int):=by omega
    go_wp2_with fail
    go_roundw
    case rel=>exact ⟨j,by omega,rfl,by rw [hN.out],by first | rfl | trivial⟩
    case measure=>simp [intOf]
  | zero =>
    have t0:decide (((0:Nat):Int) - 1 ≥ 0)=false:=by decide
    rw [show ((0:Nat):Int) - 1 = -1 by rfl]
    have t1:decide ((-1:Int) ≥ 0)=false:=by decide
    rw [List.drop_zero]
    go_wp2_with fail
    go_ret
    exact ⟨rfl,rfl⟩
end
section
open Go.RowKit Go.Sort Go.Maps
attribute [local go_sem] Oper.semAt_some
theorem pg_room (k:Nat):Fence.wide.room k:=fun d h=>by cases h
theorem pg_round {m m':Nat} {P:Program} {l:Nat} {f:FuncId} {tmps:Array Value} {assign body:Code} {w:World} {R:Ending→World→Prop}
 (h:RoundIn Fence.wide m P l f tmps assign body w R):RoundIn Fence.wide m' P l f tmps assign body w R:=⟨h.1,fun c cs _=>h.2 c cs (pg_room _)⟩
theorem pg_yield {m:Nat} (m':Nat) {P:Program} {l:Nat} {args:Array Value} {W:World} {R:Ending→World→Prop} (h:YieldAt Fence.wide m P l args W R):YieldAt Fence.wide m' P l args W R:=by
 obtain ⟨fn,tmps,assign,body,hy,hR⟩:=h
 exact ⟨fn,tmps,assign,body,hy,pg_round hR⟩
def rdsP (d:Dk):List (List Int × Int):=(List.range d.p.length).map fun (i:Nat)=>d.read (i:Int)
theorem rdsP_len (d:Dk):(rdsP d).length=d.p.length:=by simp [rdsP]
theorem rdsP_at (d:Dk) {k:Nat} (h:k<d.p.length):(rdsP d)[k]? = some (d.read (k:Int)):=by simp [rdsP,h]
theorem rdsP_succ (d:Dk) {k:Nat} (h:k<d.p.length):(rdsP d).take (k+1)=(rdsP d).take k++[d.read (k:Int)]:=by
 have hk:k<(rdsP d).length:=by rw [rdsP_len];exact h
 rw [List.take_succ_eq_append_getElem hk]
 have:=rdsP_at d h
 rw [List.getElem?_eq_getElem hk] at this
 rw [Option.some.inj this]
abbrev rdArgs (x:List Int × Int):Array Value:=#[.string (strOfNums x.1),.int .i64 x.2]
set_option maxRecDepth 100000 in
set_option maxHeartbeats 4000000 in
theorem all1_any (l bd dp g mb cap m:Nat) (d:Dk) (S:Nat→Prop) (hS : ∀ k,In3 dp g mb k → ¬S k) (hSb : ¬S bd) (J Jx:List (List Int × Int)→World→Prop) (hJ : ∀ s W W',J s W→Below W.heap.size W W'→J s W')
 (W:World) (kd:Bk W bd #[.pointer (some ⟨dp,0,none⟩)] 24) (hd:DkIs W dp g mb cap m d)
 (hY : ∀ n pre x W,x∈rdsP d→J pre W→pre.length<d.p.length→YieldAt Fence.wide n Tryd.prog l (rdArgs x) W fun e W'=>(e = .returned (.bool true)∧J (pre++[x]) W'∧Chg S W W')∨(e = .returned (.bool false)∧Jx (pre++[x]) W')) (h0:J [] W) :
 Calls Tryd.prog 63 #[.func (.yield l) #[] #[],.pointer (some ⟨bd,0,none⟩)] W fun e W'=>(∃ v,e = .returned v)∧(J (rdsP d) W' ∨ ∃ q,q <+: rdsP d∧Jx q W'):=by
 have HKD:=Bx.mk fun W' (h:Chg S W W')=>kd.chg h hSb
 have HD:=Bx.mk fun W' (h:Chg S W W')=>hd.chg h hS
 have hl:=Bx.mk (dklen_any W dp g mb cap m d hd)
 have HR:=Bx.mk fun W' (h:Chg S W W') i=>read_any W' dp g mb cap m d (HD.out W' h) i
 have HY:=Bx.mk hY
 have HJ:=Bx.mk hJ
 have H0:=Bx.mk h0
 have c0:=kd.cell 0 rfl
 have hfew:=hd.ok.few
 obtain ⟨n,hn⟩ : ∃ n,n=d.p.length:=⟨_,rfl⟩
 have Hn:=Bx.mk hn
 rw [←hn] at hl hfew
 clear hS hSb kd hd hY h0 hJ HD hn
 refine (callsIn_wide (n:=3)).1 ?_
 refine callsIn_of_wp Tryd.func63 rfl trivial ?_ rfl
 simp only [Tryd.ntmps63,List.size_toArray,List.length_cons,List.length_nil,Nat.reduceAdd,Nat.reduceSub,Array.replicate_succ,Array.replicate_zero,List.push_toArray,List.append_toArray,List.nil_append,List.cons_append]
 gi_wp2_with ((try refine ⟨trivial,?_⟩);gi_at_call 38;refine (callsIn_wide.2 hl.out).mono ?_;rintro _ _ ⟨rfl,rfl⟩)
 clear c0
 gi_loopw [6] (fun v6 wr => ∃ k:Nat,k≤n∧v6 = .int .i64 k∧Bx (J ((rdsP d).take k) wr)∧Bx (Chg S W wr)) (fun i _=>n - (intOf i).toNat)
 case atStart=>exact ⟨0,Nat.zero_le _,rfl,⟨by simpa using H0.out⟩,⟨Chg.refl _ _⟩⟩
 case round =>
  obtain ⟨k,hk,rfl,HI,HC⟩:=hrel
  by_cases hlt:k<n
  · have t0:decide ((k:Int)<(n:Int))=true:=by simp;omega
    have c0:=(HKD.out wr HC.out).cell 0 rfl
    have hr:=Bx.mk (HR.out wr HC.out (k:Int))
    have hsu:=Bx.mk (rdsP_succ d (show k<d.p.length by rw [←Hn.out];exact hlt))
    have hxm:=Bx.mk (List.mem_of_getElem? (rdsP_at d (show k<d.p.length by rw [←Hn.out];exact hlt)))
    generalize hx:d.read (k:Int)=x at *
    have hlen:((rdsP d).take k).length<d.p.length:=by rw [List.length_take,rdsP_len,←Hn.out];omega
    have HLn:=Bx.mk hlen
    clear hlen hx
    gi_upto_region 3 with fail
    gi_wp2_with ((try refine ⟨trivial,?_⟩);gi_at_call 48;refine (callsIn_wide.2 hr.out).mono ?_;rintro _ w2 ⟨rfl,hb2⟩;obtain ⟨fn,tmps,assign,body,hy,hYr⟩:=HY.out 3 _ x w2 hxm.out (HJ.out _ _ _ HI.out hb2) HLn.out;replace hYr:=Bx.mk hYr;have HB2:=Bx.mk hb2;clear hb2)
    refine (pg_round hYr.out).mono ?_
    rintro e w3 (⟨rfl,hj,hc⟩ | ⟨rfl,hj⟩)
    · rw [←hsu.out] at hj
      have HJ3:=Bx.mk hj
      have HC3:=Bx.mk ((HC.out.trans (.ofBelow HB2.out S) fun _ _ h=>h).trans hc fun _ _ h=>h)
      clear hj hc hYr hy hr c0 HB2 HI HC hsu HLn
      gi_wp2
      go_roundw
      case rel=>exact ⟨k+1,by omega,by go_num,HJ3,HC3⟩
      case measure=>simp [intOf];omega
    · rw [←hsu.out] at hj
      have HJ3:=Bx.mk hj
      clear hj hYr hy hr c0 HB2 HI HC hsu HLn
      gi_wp2
      exact ⟨rfl,_,results_none rfl _ _ _,⟨_,rfl⟩,.inr ⟨_,List.take_prefix _ _,HJ3.out⟩⟩
  · obtain rfl:k=n:=by omega
    have t0:decide ((k:Int)<(k:Int))=false:=by simp
    have hall:(rdsP d).take k=rdsP d:=by rw [List.take_of_length_le (by rw [rdsP_len,←Hn.out];omega)]
    rw [hall] at HI
    clear hall
    gi_wp2
    go_end0
    exact ⟨⟨_,rfl⟩,.inl HI.out⟩
theorem all_any (dp:Nat) (w:World):Calls Tryd.prog 39 #[.pointer (some ⟨dp,0,none⟩)] w fun e w'=>e = .returned (.func (.func 63) #[] #[.pointer (some ⟨w.heap.size,0,none⟩)])∧w'=w.alloc (.cells #[.pointer (some ⟨dp,0,none⟩)] 24):=by
 go_enter Tryd.func39,Tryd.ntmps39
 go_wp2_with fail
 go_ret
 exact ⟨rfl,rfl⟩
theorem all_stops (bd dp g mb cap m:Nat) (d:Dk) (S:Nat→Prop) (hS : ∀ k,In3 dp g mb k → ¬S k) (hSb : ¬S bd) (n:Nat) (w:World) (kd:Bk w bd #[.pointer (some ⟨dp,0,none⟩)] 24) (hd:DkIs w dp g mb cap m d) :
 SeqStopsK Fence.wide n Tryd.prog 63 #[.pointer (some ⟨bd,0,none⟩)] (fun x:{ x // x∈rdsP d }=>rdArgs x.1) (Chg S) (fun xs=>xs.map (·.1)=rdsP d) (fun xs=>xs.map (·.1) <+: rdsP d) d.p.length w:=by
 intro l J Jx W hW hJ hJx hY h0
 refine callsIn_wide.2 ?_
 refine (all1_any l bd dp g mb cap m d S hS hSb (fun s W' => ∃ ys:List { x // x∈rdsP d },ys.map (·.1)=s∧J ys W') (fun s W' => ∃ ys:List { x // x∈rdsP d },ys.map (·.1)=s∧Jx ys W') ?_ W (kd.later hW) (hd.later hW) ?_ ⟨[],rfl,h0⟩).mono ?_
 · rintro s A B ⟨ys,hy,hj⟩ hb
   exact ⟨ys,hy,hJ _ _ _ none hj (grown_of_below hb) (fun r e=>by cases e)⟩
 · rintro m' pre x W1 hx ⟨ys,rfl,hj⟩ hl
   rw [List.length_map] at hl
   refine YieldAt.mono (pg_yield m' (hY ys ⟨x,hx⟩ W1 hj hl)) ?_
   rintro e W' (⟨rfl,h1,h2⟩ | ⟨rfl,h1⟩)
   · exact .inl ⟨rfl,⟨_,by simp,h1⟩,h2⟩
   · exact .inr ⟨rfl,⟨_,by simp,h1⟩⟩
 · rintro e W' ⟨hv,⟨ys,hy,hj⟩ | ⟨q,hq,ys,rfl,hj⟩⟩
   · exact ⟨hv,.inl ⟨ys,hy,hj⟩⟩
   · exact ⟨hv,.inr ⟨ys,hq,hj⟩⟩
end
section
open Go.Sort Go.RowKit
theorem pg_upon_in {P:Program} {o:Oper} {a:Act} {next:Act→World→Prop} {Q:Exit→Act→World→Prop} (l n:Nat) {r:Result Next} (h:o.upon P a next Q r):o.uponIn (Fence.wide.inRound l) n P a next Q r:=by
 cases r with
 | ok x w' =>
   cases x with
   | value v=>exact h
   | skip=>exact h
   | defer d=>exact h
   | enter f args=>exact ⟨fun e=>(by cases e),(callsIn_wide.2 h).inRound l⟩
   | row row args=>exact ⟨fun e=>(by cases e),fun c cs _=>by
    obtain ⟨v,w2,r,s⟩:=h c cs
    exact ⟨v,w2,r,stepsIn_wide.2 s⟩⟩
   | round l f tmps assign body=>exact h.elim
   | _=>exact h.elim
 | halt x w' =>
   cases x with
   | panic v=>exact h
   | _=>exact h.elim
section
variable {P:Program} {Q:Exit→Act→World→Prop}
theorem pg_wpOp_in (l n:Nat) {ops:Array Oper} (hnd : ∀ (i:Nat) (o:Oper) (c:Call),ops[i]? = some o→o.op ≠ .defer c) (hLo : ¬LetsOut Q) {i:Nat} {K:Act→World→Prop} {a:Act} {w:World} (h:wpOp P ops Q i K a w):wpOpIn (Fence.wide.inRound l) n P ops Q i K a w:=by
 unfold wpOp at h
 unfold wpOpIn
 split
 · rename_i ho;simpa only [ho] using h
 · rename_i o ho
   simp only [ho] at h
   split
   · rename_i hw
     rw [if_pos hw] at h
     rcases h with h | h
     · refine ⟨fun f _=>trivial,?_⟩
       rw [Fence.inRound_round,Oper.semAt_some l _ _ (fun c=>hnd i o c ho)]
       exact pg_upon_in l n h
     · exact absurd h.2 hLo
   · rename_i hw
     rw [if_neg hw] at h
     exact ⟨fun f _=>trivial,h⟩
theorem pg_wpAny_in (l n:Nat) {ops:Array Oper} {md:Region.Mode} (hnd : ∀ (i:Nat) (o:Oper) (c:Call),ops[i]? = some o→o.op ≠ .defer c) (hLo : ¬LetsOut Q) : ∀ (fuel:Nat) (listed:Array Bool) (a:Act) (w:World),wpAny P md ops Q fuel listed a w→wpAnyIn (Fence.wide.inRound l) n P md ops Q fuel listed a w
 | 0,_,_,_,h=>h
 | fuel+1,listed,a,w,h=>⟨h.1,fun i hi=>wpOpIn_mono (fun a' w' h'=>pg_wpAny_in l n hnd hLo fuel _ a' w' h') (pg_wpOp_in l n hnd hLo (h.2 i hi))⟩
def pg_noDefer (l:List Oper):Bool:=l.all fun o=>match o.op with | .defer _=>false | _=>true
theorem pg_noDefer_spec {l:List Oper} (h:pg_noDefer l=true) (i:Nat) (o:Oper) (c:Call) (ho:l.toArray[i]? = some o):o.op ≠ .defer c:=by
 intro e
 have hm:o∈l:=List.mem_of_getElem? (by simpa using ho)
 have:=List.all_eq_true.1 h o hm
 rw [e] at this
 cases this
theorem wpIn_region_relM {l:List Oper} {W:World} {a:Act} {id:Nat} (lo k:Nat) (n:Nat) (R:Nat→Value→World→Prop) (hm:P.follows .mixedOrders=true) (hB:headRT l n=true) (hnd:pg_noDefer l=true) (hLo : ¬LetsOut Q) (m:Nat) (hdm:dstB l m=true) (ham:a.tmps.size=m)
 (hf : ∀ i,i<n→Firm (R i))
 (hop : ∀ i o,i<n→l[i]? = some o → ∀ (ρ:Operand→Value) w,Below W.heap.size W w→(∀ v,ρ (.const v)=v)→(∀ g,ρ (.global g) = .pointer (some ⟨g,0,none⟩))→(∀ f,ρ (.func f) = .func (.func f) #[] #[]) →
  (∀ d,.tmp d∈o.op.operands→Known l n R a d (ρ (.tmp d)) w)→relUpon P w (R i) ((execOp ρ o).run P w))
 (h : ∀ (vs:List Value) w',vs.length=n→Below W.heap.size W w'→(∀ i v,vs[i]? = some v→R i v w')→wpList P l.toArray Q (l.drop n) (puts (((l.take n).map (·.dst)).zip vs) a) w'):(Code.region id l.toArray true).wpIn (Fence.wide.inRound lo) k P Q a W :=
 wpIn_region_any hm (pg_wpAny_in lo k (pg_noDefer_spec hnd) hLo _ _ _ _ (any_relT n R hB m hdm ham hf hop h))
end
end
end Go.Proofs.YtajhkncolbgkbaaDoor
