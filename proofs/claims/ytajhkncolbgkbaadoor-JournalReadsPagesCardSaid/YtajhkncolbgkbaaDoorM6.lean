/- Wri, Flu, Prn, Prd: joined by program, for one claim. -/
import Derived.Test.YtajhkncolbgkbaaDoorM5
import Derived.Test.YtajhkncolbgkbaaDoorM4
import Derived.Shelf.Abstract
set_option linter.unusedVariables false
set_option linter.unusedSimpArgs false
namespace Go.Proofs.YtajhkncolbgkbaaDoor
section
open Go.RowKit Go.Sort
theorem is_at {d:Dk} {i:Int} (h:d.is i=true) : ∃ k x,i=((k:Nat):Int)∧d.p[k]? = some x:=by
 unfold Dk.is at h
 simp only [Bool.and_eq_true,decide_eq_true_eq] at h
 obtain ⟨k,rfl⟩:=Int.eq_ofNat_of_zero_le h.1
 exact ⟨k,d.p[k]'(by omega),rfl,List.getElem?_eq_getElem _⟩
theorem read_any (w:World) (p g mb cap m:Nat) (d:Dk) (h:DkIs w p g mb cap m d) (i:Int) :
 Calls Tryd.prog 48 #[.pointer (some ⟨p,0,none⟩),.int .i64 i] w fun e w'=>e = .returned (.tuple #[.string (strOfNums (d.read i).1),.int .i64 (d.read i).2])∧Below w.heap.size w w':=by
 have c2:=h.kp.cell 2 rfl
 have hIs:=Bx.mk (is_any w p g mb cap m d h i)
 by_cases ho:d.off=true
 · have hr:d.read i=([],20):=by unfold Dk.read eDown;rw [if_pos ho]
   rw [hr]
   clear h hr hIs
   go_enter Tryd.func48,Tryd.ntmps48
   go_wp2
   go_ret2
   exact ⟨rfl,Below.refl _ _⟩
 · replace ho:d.off=false:=by simpa using ho
   by_cases hi:d.is i=true
   · obtain ⟨k,x,rfl,hx⟩:=is_at hi
     have hr:d.read k=(x.now,0):=by unfold Dk.read;rw [ho,hi,Int.toNat_natCast,hx];rfl
     rw [hr]
     have hN:=Bx.mk (now_any w p g mb cap m d h k x hx)
     have hT:=Bx.mk fun W=>text_any W x.now (h.ok.pages x (List.mem_of_getElem? hx)).now.1
     rw [hi] at hIs
     clear h hr hx hi
     generalize x.now=xs at *
     generalize d.off=O at *
     subst ho
     go_enter Tryd.func48,Tryd.ntmps48
     go_wp2_with (first
      | (go_at_call 54;refine hIs.out.mono ?_;rintro _ _ ⟨rfl,rfl⟩)
      | (go_at_call 71;refine hN.out.mono ?_;rintro _ w1 ⟨rfl,hb1⟩))
     refine (hT.out _).mono ?_
     rintro _ w2 ⟨rfl,hb2⟩
     go_wp2
     go_ret2
     exact ⟨rfl,hb1.trans (hb2.mono hb1.size)⟩
   · replace hi:d.is i=false:=by simpa using hi
     have hr:d.read i=([],1):=by unfold Dk.read eArg;rw [ho,hi];rfl
     rw [hr]
     rw [hi] at hIs
     clear h hr hi
     go_enter Tryd.func48,Tryd.ntmps48
     go_wp2_with (go_at_call 54;refine hIs.out.mono ?_;rintro _ _ ⟨rfl,rfl⟩)
     go_ret2
     exact ⟨rfl,Below.refl _ _⟩
def WritePost (p g mb cap m:Nat) (w:World) (d':Dk) (n:Int) (e:Ending) (w':World):Prop:=e = .returned (.int .i64 n)∧DkIs w' p g mb cap m d'∧Chg (In3 p g mb) w w'
theorem DkIs.chgP {w w':World} {p g mb:Nat} (h:Chg (· = p) w w'):Chg (In3 p g mb) w w':=h.mono fun _ _ e=>.inl e
theorem write_bad (w:World) (p g mb cap m:Nat) (d:Dk) (h:DkIs w p g mb cap m d) (i at_:Int) (s:List Int) (_hs:s.length≤300) (hat : -9223372036854775808≤at_∧at_≤9223372036854775807)
 (hb:d.off=true∨(d.is i && decide (0≤at_) && decide (at_≤128) && decide ((s.length:Int)≤128 - at_))=false) :
 Calls Tryd.prog 67 #[.pointer (some ⟨p,0,none⟩),.int .i64 i,.int .i64 at_,.string (strOfNums s)] w (WritePost p g mb cap m w d (if d.off=true then 20 else 1)):=by
 have H:=Bx.mk h
 have c2:=h.kp.cell 2 rfl
 have hIs:=Bx.mk (is_any w p g mb cap m d h i)
 have hsz:(strOfNums s).size=s.length:=strOfNums_size s
 clear h
 by_cases ho:d.off=true
 · rw [if_pos ho]
   clear hb hIs
   go_enter Tryd.func67,Tryd.ntmps67
   go_wp2
   go_ret
   exact ⟨rfl,H.out,Chg.refl _ _⟩
 · rw [if_neg ho]
   replace hb:=hb.resolve_left ho
   replace ho:d.off=false:=by simpa using ho
   by_cases hi:d.is i=true
   · rw [hi] at hIs hb
     by_cases h1:0≤at_
     · have t1:decide (at_<0)=false:=by simp;omega
       by_cases h2:at_≤128
       · have t2:decide (128<at_)=false:=by simp;omega
         have h3:128 - at_<(s.length:Int):=by simpa [h1,h2] using hb
         have t3:decide (128 - at_<(s.length:Int))=true:=by simpa using h3
         clear hb
         go_enter Tryd.func67,Tryd.ntmps67
         go_wp2_with (go_at_call 54;refine hIs.out.mono ?_;rintro _ _ ⟨rfl,rfl⟩)
         go_ret
         exact ⟨rfl,H.out,Chg.refl _ _⟩
       · have t2:decide (128<at_)=true:=by simp;omega
         clear hb
         go_enter Tryd.func67,Tryd.ntmps67
         go_wp2_with (go_at_call 54;refine hIs.out.mono ?_;rintro _ _ ⟨rfl,rfl⟩)
         go_ret
         exact ⟨rfl,H.out,Chg.refl _ _⟩
     · have t1:decide (at_<0)=true:=by simp;omega
       clear hb
       go_enter Tryd.func67,Tryd.ntmps67
       go_wp2_with (go_at_call 54;refine hIs.out.mono ?_;rintro _ _ ⟨rfl,rfl⟩)
       go_ret
       exact ⟨rfl,H.out,Chg.refl _ _⟩
   · replace hi:d.is i=false:=by simpa using hi
     rw [hi] at hIs
     clear hb
     go_enter Tryd.func67,Tryd.ntmps67
     go_wp2_with (go_at_call 54;refine hIs.out.mono ?_;rintro _ _ ⟨rfl,rfl⟩)
     go_ret
     exact ⟨rfl,H.out,Chg.refl _ _⟩
theorem write_down (w:World) (p g mb cap m:Nat) (d:Dk) (h:DkIs w p g mb cap m d) (i:Int) (at_:Nat) (s:List Int) (ho:d.off=false) (hi:d.is i=true) (hat:at_+s.length≤128) (hst:d.step.2=false) :
 Calls Tryd.prog 67 #[.pointer (some ⟨p,0,none⟩),.int .i64 i,.int .i64 (at_:Int),.string (strOfNums s)] w (WritePost p g mb cap m w d.step.1 20):=by
 have c2:=h.kp.cell 2 rfl
 have hIs:=Bx.mk (is_any w p g mb cap m d h i)
 have hSt:=Bx.mk (step_any w p g mb cap m d h)
 have hsz:(strOfNums s).size=s.length:=strOfNums_size s
 rw [hi] at hIs
 rw [hst,show errS false=20 from rfl] at hSt
 have t1:decide ((at_:Int)<0)=false:=by simp
 have t2:decide (128<(at_:Int))=false:=by simp;omega
 have t3:decide (128 - (at_:Int)<(s.length:Int))=false:=by simp;omega
 clear h hi hst
 go_enter Tryd.func67,Tryd.ntmps67
 go_wp2_with (first
  | (go_at_call 54;refine hIs.out.mono ?_;rintro _ _ ⟨rfl,rfl⟩)
  | (go_at_call 68;refine hSt.out.mono ?_;rintro _ w1 ⟨rfl,hd,hc⟩;replace hd:=Bx.mk hd;replace hc:=Bx.mk hc))
 go_ret
 exact ⟨rfl,hd.out,DkIs.chgP hc.out⟩
theorem step_p (d:Dk):d.step.1.p=d.p:=by
 unfold Dk.step
 split
 · rfl
 · split <;> rfl
theorem put_len {old:List Int} {at_:Nat} {s:List Int} (h:old.length=128) (ha:at_+s.length≤128):(put old at_ s).length=128:=by
 unfold put
 simp only [List.length_append,List.length_take,List.length_drop]
 omega
theorem DkOk.put {d:Dk} (h:DkOk d) {i:Nat} (f:Pg→Pg) (hf : ∀ x,d.p[i]? = some x→PgOk x→PgOk (f x)):DkOk { d with p:=d.p.modify i f }:=by
 refine ⟨fun x hx=>?_,h.lo,h.hi,by show (d.p.modify i f).length≤120;rw [List.length_modify];exact h.few⟩
 obtain ⟨k,hk⟩:=List.getElem?_of_mem hx
 rw [List.getElem?_modify] at hk
 cases hp:d.p[k]? with
 | none=>rw [hp] at hk;cases hk
 | some y =>
   have hy:=h.pages y (List.mem_of_getElem? hp)
   rw [hp] at hk
   by_cases e:i=k
   · subst e
     simp only [if_true] at hk
     replace hk:f y=x:=by injection hk
     rw [←hk];exact hf y hp hy
   · simp only [if_neg e] at hk
     replace hk:y=x:=by simpa using hk
     rw [←hk];exact hy
set_option maxRecDepth 100000 in
theorem write_ok (w:World) (p g mb cap m:Nat) (d:Dk) (h:DkIs w p g mb cap m d) (hm:m<1000000) (i at_:Nat) (x:Pg) (hx:d.p[i]? = some x) (s:List Int) (hs:Byt s) (ho:d.off=false) (hat:at_+s.length≤128) (hst:d.step.2=true) :
 Calls Tryd.prog 67 #[.pointer (some ⟨p,0,none⟩),.int .i64 (i:Int),.int .i64 (at_:Int),.string (strOfNums s)] w
  (WritePost p g mb cap (m+1) w { d.step.1 with p:=d.step.1.p.modify i fun x=>(x.1,some (put x.now at_ s)) } 0):=by
 have c2:=h.kp.cell 2 rfl
 have hi:d.is i=true:=by
  have:=(List.getElem?_eq_some_iff.1 hx).1
  unfold Dk.is;simp;omega
 have hIs:=Bx.mk (is_any w p g mb cap m d h i)
 have hSt:=Bx.mk (step_any w p g mb cap m d h)
 have hsz:(strOfNums s).size=s.length:=strOfNums_size s
 have hP:=h.ok.pages x (List.mem_of_getElem? hx)
 have hX:=Bx.mk (show d.step.1.p[i]? = some x by rw [step_p];exact hx)
 rw [hi] at hIs
 rw [hst,show errS true=0 from rfl] at hSt
 have t1:decide ((at_:Int)<0)=false:=by simp
 have t2:decide (128<(at_:Int))=false:=by simp;omega
 have t3:decide (128 - (at_:Int)<(s.length:Int))=false:=by simp;omega
 clear h hi hst hx
 generalize d.step.1=d1 at *
 have HI:=Bx.mk pgInfo
 have l1:=hP.now
 have s1:=Bx.mk (HI.out _ ((row_cells x.now .u8).trans l1.1))
 have hZ:Bx (Tryd.zeroCells105.size=128):=⟨by kernel_rfl⟩
 have s2:=Bx.mk (show Tryd.zeroCells105.size=(x.now.map (Value.int .u8)).toArray.size by rw [row_cells,hZ.out,l1.1])
 have s3:=Bx.mk (one_ints .u8 x.now)
 go_enter Tryd.func67,Tryd.ntmps67
 go_upto_region 8 with (first
  | (go_at_call 54;refine hIs.out.mono ?_;rintro _ _ ⟨rfl,rfl⟩)
  | (go_at_call 68;refine hSt.out.mono ?_;rintro _ w1 ⟨rfl,hd,hc⟩;replace hd:=Bx.mk hd;replace hc:=Bx.mk hc))
 have hN:=Bx.mk (now_any w1 p g mb cap m d1 hd.out i x hX.out)
 clear hIs hSt t1 t2 t3 c2
 unfold arrV at hN
 go_upto_region 9 with (first
  | (go_at_call 71;refine hN.out.mono ?_;rintro _ w2 ⟨rfl,hb2⟩;replace hb2:=Bx.mk hb2)
  | refine wpList_store_whole rfl _ _ _ rfl w2.heap.size rfl _ _ rfl _ (heap_alloc_new w2 (.cells Tryd.zeroCells105 105)) s1.out s2.out s3.out ?_)
 simp only [Act.put]
 generalize hW:World.setRow (World.alloc w2 _) _ _=W3
 have kq:Bx (Bk W3 w2.heap.size (x.now.map (Value.int .u8)).toArray 105):=by rw [←hW];exact ⟨setRow_heap _ _ _ _ _ (0,0) (heap_alloc_new _ _)⟩
 have hb3:Bx (Below w2.heap.size w2 W3):=by rw [←hW];exact ⟨below_setRow ((Below.refl _ _).alloc (Nat.le_refl _) _) (Nat.le_refl _) _⟩
 clear hW
 have u8i:Bx ((Tryd.prog.info? 5).map (·.size)=some 1):=⟨by kernel_rfl⟩
 have b1:(0:Int)≤(at_:Int):=by omega
 have b2:(at_:Int)≤128:=by omega
 obtain ⟨A,hA,e2,e3⟩ : ∃ A,(at_=128∧A=0 ∨ ¬at_=128∧A=at_)∧Bx (A+s.length≤x.now.length)∧Bx (put x.now A s=put x.now at_ s):=by
  by_cases h:at_=128
  · subst h
    have hs0:s=[]:=List.eq_nil_of_length_eq_zero (by omega)
    subst hs0
    refine ⟨0,.inl ⟨rfl,rfl⟩,⟨by simp⟩,⟨?_⟩⟩
    unfold put
    simp only [List.length_nil,Nat.add_zero,List.take_zero,List.drop_zero,List.append_nil,List.nil_append]
    rw [List.take_append_drop]
  · exact ⟨at_,.inr ⟨h,rfl⟩,⟨by omega⟩,⟨rfl⟩⟩
 have hlp:=Bx.mk (put_len l1.1 hat)
 have hby:Bx (Byt (put x.now at_ s)):=⟨((l1.2.take _).append hs).append (l1.2.drop _)⟩
 have hs:=Bx.mk hs
 have e1:=Bx.mk (show s.length≤128 - at_ by omega)
 have hD:=Bx.mk (hd.out.later (hb2.out.trans (hb3.out.mono hb2.out.size)))
 have hC:Bx (Chg (In3 p g mb) w W3):=⟨((DkIs.chgP hc.out).later hb2.out hc.out.size).later hb3.out (Nat.le_trans hc.out.size hb2.out.size)⟩
 have hq0:Bx (w.heap.size≤w2.heap.size∧p ≠ w2.heap.size∧g ≠ w2.heap.size∧mb ≠ w2.heap.size):=⟨Nat.le_trans hc.out.size hb2.out.size,by have:=hd.out.lt;have:=hb2.out.size;omega,by have:=hd.out.lt;have:=hb2.out.size;omega,by have:=hd.out.lt;have:=hb2.out.size;omega⟩
 clear hc hd hb2 hb3 hN s2 s3 hZ hP
 generalize hY:put x.now at_ s=Y at *
 have hY:=Bx.mk hY
 rcases hA with ⟨rfl,rfl⟩ | ⟨h128,rfl⟩
 · go_upto_region 10 with (refine wpList_copy_str rfl _ _ _ _ rfl 5 Tryd.underlying75 u8i.out w2.heap.size _ _ _ rfl x.now s hs.out rfl 105 kq.out e1.out e2.out ?_)
   generalize hW:World.setRow W3 _ _=W4
   simp only [Act.put]
   have kq4:Bk W4 w2.heap.size (Y.map (Value.int .u8)).toArray 105:=by rw [←hW,←e3.out];exact setRow_heap _ _ _ _ _ (0,0) kq.out
   have hC4:Bx (Chg (In3 p g mb) w W4):=by
    rw [←hW]
    exact ⟨⟨hC.out.os,hC.out.tape,hC.out.output,by simpa [World.setRow] using hC.out.size,fun k hk hn=>(setRow_other W3 _ k _ (by have:=hq0.out.1;omega)).trans (hC.out.block k hk hn)⟩⟩
   have hD4:DkIs W4 p g mb cap m d1:=by
    rw [←hW]
    exact hD.out.chg (S:=(· = w2.heap.size)) ⟨rfl,rfl,rfl,by simp [World.setRow],fun k _ hn=>setRow_other W3 _ k _ hn⟩ (fun k hk e=>by
     rcases hk with rfl | rfl | rfl
     · exact hq0.out.2.1 e
     · exact hq0.out.2.2.1 e
     · exact hq0.out.2.2.2 e)
   clear hW kq hD hC e2 e3
   have c1 : ∀ dk osk,(grow (redrawn W4 dk) osk).cell? ⟨p,1,none⟩=some (.map (some mb)):=cell_regrown (hD4.kp.cell 1 rfl)
   have hrg:Bx (∀ W,(∃ P:Regrown,W=grow (redrawn W4 P.d) P.os)→W.rangeAt w2.heap.size 0 (Y.map (Value.int .u8))):=⟨by
    rintro _ ⟨P,rfl⟩ j v hv
    refine cell_regrown (?_) _ _
    rw [Nat.zero_add]
    exact kq4.cell j (by rw [List.getElem?_toArray];exact hv)⟩
   have hY1:=Bx.mk (HI.out _ ((row_cells Y .u8).trans hlp.out))
   refine wp_region_head_below 6 (by kernel_rfl) (by kernel_rfl) ?_
   simp only [List.take_succ_cons,List.take_zero,List.drop_succ_cons,List.drop_zero]
   repeat (first
    | refine wpQuiet_load_mid rfl _ _ rfl w2.heap.size 0 rfl _ _ hrg.out Tryd.underlying105 rfl (by have:=hY1.out;rwa [List.size_toArray] at this) ?_
    | go_big_quiet_step (fail) | quiet_step (fail))
   refine wpQuiet_nil ?_
   rintro _ ⟨⟨dq,osq⟩,rfl⟩
   have hb5:=below_regrown W4 dq osq
   have hD5:=hD4.later hb5
   have hC5:=hC4.out.later hb5 hC4.out.size
   clear c1 hrg hC4 hD4 kq4 hb5
   generalize grow (redrawn W4 dq) osq=W5 at *
   have hiL:=(List.getElem?_eq_some_iff.1 hX.out).1
   have hfew:=hD5.ok.few
   have hf : ∀ y,d1.p[i]? = some y→((fun x:Pg=>(x.1,some (put x.now 128 s))) y).2=some Y:=fun y hy=>by rw [hX.out] at hy;injection hy with hy;rw [←hy];exact congrArg some hY.out
   obtain ⟨W6,hrun,hm6,hg6⟩:=hD5.km.put (by unfold maxLen;omega) hiL (by omega) (fun x:Pg=>(x.1,some (put x.now 128 s))) hlp.out hf
   have hD6:Bx (DkIs W6 p g mb cap (m+1) { d1 with p:=d1.p.modify i fun x=>(x.1,some (put x.now 128 s)) }):=by
    have hne:=hD5.ne
    have hmap:(d1.p.modify i fun x:Pg=>(x.1,some (put x.now 128 s))).map (·.1)=d1.p.map (·.1):=by
     apply List.ext_getElem?
     intro k
     rw [List.getElem?_map,List.getElem?_map,List.getElem?_modify]
     cases d1.p[k]? with
     | none=>rfl
     | some y=>by_cases e:i=k <;> simp [e]
    have hl:(d1.p.modify i fun x:Pg=>(x.1,some (put x.now 128 s))).length=d1.p.length:=List.length_modify ..
    refine ⟨⟨hD5.ok.put _ fun y hy hy2=>?_,?_,?_,?_,(hD5.pg.chg hg6 (fun e=>hne.2.1 e)).same hmap,hm6,hne⟩⟩
    · refine ⟨hy2.1,hy2.2.1,fun n hn=>?_⟩
      have:=(hf y hy).symm.trans hn
      injection this with this
      rw [←this]
      exact ⟨hlp.out,hby.out⟩
    · show 0<(d1.p.modify i _).length
      rw [hl];exact hD5.pos
    · show (d1.p.modify i _).length≤cap∧_
      rw [hl];exact hD5.hcap
    · show Bk W6 p #[.slice _ (d1.p.modify i _).length cap,_,_,_] _
      rw [hl];exact hD5.kp.chg hg6 (fun e=>hne.2.2 e)
   have hC6:Bx (Chg (In3 p g mb) w W6):=⟨hC5.trans hg6 fun k _ e=>.inr (.inr e)⟩
   clear hm6 hg6 hf hD5 hC5
   unfold arrV at hrun
   go_wp2
   go_ret
   exact ⟨rfl,hD6.out,hC6.out⟩
 · go_upto_region 10 with (refine wpList_copy_str rfl _ _ _ _ rfl 5 Tryd.underlying75 u8i.out w2.heap.size _ _ _ rfl x.now s hs.out rfl 105 kq.out e1.out e2.out ?_)
   generalize hW:World.setRow W3 _ _=W4
   simp only [Act.put]
   have kq4:Bk W4 w2.heap.size (Y.map (Value.int .u8)).toArray 105:=by rw [←hW,←e3.out];exact setRow_heap _ _ _ _ _ (0,0) kq.out
   have hC4:Bx (Chg (In3 p g mb) w W4):=by
    rw [←hW]
    exact ⟨⟨hC.out.os,hC.out.tape,hC.out.output,by simpa [World.setRow] using hC.out.size,fun k hk hn=>(setRow_other W3 _ k _ (by have:=hq0.out.1;omega)).trans (hC.out.block k hk hn)⟩⟩
   have hD4:DkIs W4 p g mb cap m d1:=by
    rw [←hW]
    exact hD.out.chg (S:=(· = w2.heap.size)) ⟨rfl,rfl,rfl,by simp [World.setRow],fun k _ hn=>setRow_other W3 _ k _ hn⟩ (fun k hk e=>by
     rcases hk with rfl | rfl | rfl
     · exact hq0.out.2.1 e
     · exact hq0.out.2.2.1 e
     · exact hq0.out.2.2.2 e)
   clear hW kq hD hC e2 e3
   have c1 : ∀ dk osk,(grow (redrawn W4 dk) osk).cell? ⟨p,1,none⟩=some (.map (some mb)):=cell_regrown (hD4.kp.cell 1 rfl)
   have hrg:Bx (∀ W,(∃ P:Regrown,W=grow (redrawn W4 P.d) P.os)→W.rangeAt w2.heap.size 0 (Y.map (Value.int .u8))):=⟨by
    rintro _ ⟨P,rfl⟩ j v hv
    refine cell_regrown (?_) _ _
    rw [Nat.zero_add]
    exact kq4.cell j (by rw [List.getElem?_toArray];exact hv)⟩
   have hY1:=Bx.mk (HI.out _ ((row_cells Y .u8).trans hlp.out))
   refine wp_region_head_below 6 (by kernel_rfl) (by kernel_rfl) ?_
   simp only [List.take_succ_cons,List.take_zero,List.drop_succ_cons,List.drop_zero]
   repeat (first
    | refine wpQuiet_load_mid rfl _ _ rfl w2.heap.size 0 rfl _ _ hrg.out Tryd.underlying105 rfl (by have:=hY1.out;rwa [List.size_toArray] at this) ?_
    | go_big_quiet_step (fail) | quiet_step (fail))
   refine wpQuiet_nil ?_
   rintro _ ⟨⟨dq,osq⟩,rfl⟩
   have hb5:=below_regrown W4 dq osq
   have hD5:=hD4.later hb5
   have hC5:=hC4.out.later hb5 hC4.out.size
   clear c1 hrg hC4 hD4 kq4 hb5
   generalize grow (redrawn W4 dq) osq=W5 at *
   have hiL:=(List.getElem?_eq_some_iff.1 hX.out).1
   have hfew:=hD5.ok.few
   have hf : ∀ y,d1.p[i]? = some y→((fun x:Pg=>(x.1,some (put x.now A s))) y).2=some Y:=fun y hy=>by rw [hX.out] at hy;injection hy with hy;rw [←hy];exact congrArg some hY.out
   obtain ⟨W6,hrun,hm6,hg6⟩:=hD5.km.put (by unfold maxLen;omega) hiL (by omega) (fun x:Pg=>(x.1,some (put x.now A s))) hlp.out hf
   have hD6:Bx (DkIs W6 p g mb cap (m+1) { d1 with p:=d1.p.modify i fun x=>(x.1,some (put x.now A s)) }):=by
    have hne:=hD5.ne
    have hmap:(d1.p.modify i fun x:Pg=>(x.1,some (put x.now A s))).map (·.1)=d1.p.map (·.1):=by
     apply List.ext_getElem?
     intro k
     rw [List.getElem?_map,List.getElem?_map,List.getElem?_modify]
     cases d1.p[k]? with
     | none=>rfl
     | some y=>by_cases e:i=k <;> simp [e]
    have hl:(d1.p.modify i fun x:Pg=>(x.1,some (put x.now A s))).length=d1.p.length:=List.length_modify ..
    refine ⟨⟨hD5.ok.put _ fun y hy hy2=>?_,?_,?_,?_,(hD5.pg.chg hg6 (fun e=>hne.2.1 e)).same hmap,hm6,hne⟩⟩
    · refine ⟨hy2.1,hy2.2.1,fun n hn=>?_⟩
      have:=(hf y hy).symm.trans hn
      injection this with this
      rw [←this]
      exact ⟨hlp.out,hby.out⟩
    · show 0<(d1.p.modify i _).length
      rw [hl];exact hD5.pos
    · show (d1.p.modify i _).length≤cap∧_
      rw [hl];exact hD5.hcap
    · show Bk W6 p #[.slice _ (d1.p.modify i _).length cap,_,_,_] _
      rw [hl];exact hD5.kp.chg hg6 (fun e=>hne.2.2 e)
   have hC6:Bx (Chg (In3 p g mb) w W6):=⟨hC5.trans hg6 fun k _ e=>.inr (.inr e)⟩
   clear hm6 hg6 hf hD5 hC5
   unfold arrV at hrun
   go_wp2
   go_ret
   exact ⟨rfl,hD6.out,hC6.out⟩
end
section
open Go.RowKit Go.Sort
theorem flush_off (w:World) (p g mb cap m:Nat) (d:Dk) (h:DkIs w p g mb cap m d) (ho:d.off=true) :
 Calls Tryd.prog 43 #[.pointer (some ⟨p,0,none⟩)] w (WritePost p g mb cap m w d 20):=by
 have H:=Bx.mk h
 have c2:=h.kp.cell 2 rfl
 clear h
 go_enter Tryd.func43,Tryd.ntmps43
 go_wp2
 go_ret
 exact ⟨rfl,H.out,Chg.refl _ _⟩
theorem flush_down (w:World) (p g mb cap m:Nat) (d:Dk) (h:DkIs w p g mb cap m d) (ho:d.off=false) (hst:d.step.2=false) :
 Calls Tryd.prog 43 #[.pointer (some ⟨p,0,none⟩)] w (WritePost p g mb cap m w d.step.1 20):=by
 have c2:=h.kp.cell 2 rfl
 have hSt:=Bx.mk (step_any w p g mb cap m d h)
 rw [hst,show errS false=20 from rfl] at hSt
 clear h hst
 go_enter Tryd.func43,Tryd.ntmps43
 go_wp2_with (go_at_call 68;refine hSt.out.mono ?_;rintro _ w1 ⟨rfl,hd,hc⟩;replace hd:=Bx.mk hd;replace hc:=Bx.mk hc)
 go_ret
 exact ⟨rfl,hd.out,DkIs.chgP hc.out⟩
def fl (p:List Pg) (L:Nat→Bool):List Pg:=p.mapIdx fun i x=>if L i=true then x else (x.now,x.2)
theorem fl_len (p:List Pg) (L:Nat→Bool):(fl p L).length=p.length:=by unfold fl;rw [List.length_mapIdx]
theorem fl_at {p:List Pg} {i:Nat} {x:Pg} (h:p[i]? = some x) (L:Nat→Bool):(fl p L)[i]? = some (if L i=true then x else (x.now,x.2)):=by
 unfold fl
 rw [List.getElem?_mapIdx,h];rfl
theorem fl_start (p:List Pg):fl p (fun i=>(p[i]?.bind (·.2)).isSome)=p:=by
 apply List.ext_getElem?
 intro i
 cases h:p[i]? with
 | none=>rw [List.getElem?_eq_none_iff.2 (by rw [fl_len];exact List.getElem?_eq_none_iff.1 h)]
 | some x =>
   rw [fl_at h,h]
   obtain ⟨o,n⟩:=x
   cases n <;> rfl
theorem fl_step {p:List Pg} {i:Nat} {n:List Int} (L:Nat→Bool) (hp:p[i]?.bind (·.2)=some n) (hL:L i=true):fl p (fun j=>L j && !decide (j=i))=(fl p L).modify i fun x=>(n,x.2):=by
 apply List.ext_getElem?
 intro j
 rw [List.getElem?_modify]
 cases h:p[j]? with
 | none =>
   have:=List.getElem?_eq_none_iff.1 h
   rw [List.getElem?_eq_none_iff.2 (by rw [fl_len];exact this),List.getElem?_eq_none_iff.2 (by rw [fl_len];exact this)];rfl
 | some x =>
   rw [fl_at h,fl_at h]
   by_cases e:i=j
   · subst e
     rw [h,Option.bind_some] at hp
     simp only [decide_true,Bool.not_true,Bool.and_false,Bool.false_eq_true,if_false,if_true,hL]
     simp only [Pg.now,hp,Option.getD_some]
     show some (n,some n)=some (n,x.2)
     rw [hp]
   · have e2 : ¬j=i:=fun h=>e h.symm
     simp [e,e2]
theorem fl_end {p:List Pg} {L:Nat→Bool} (hL : ∀ i,i<p.length→L i=false):(fl p L).map (·.1)=(p.map fun x=>(x.now,(none:Option (List Int)))).map (·.1):=by
 rw [List.map_map]
 apply List.ext_getElem?
 intro i
 rw [List.getElem?_map,List.getElem?_map]
 cases h:p[i]? with
 | none=>rw [List.getElem?_eq_none_iff.2 (by rw [fl_len];exact List.getElem?_eq_none_iff.1 h)];rfl
 | some x =>
   have hi:=(List.getElem?_eq_some_iff.1 h).1
   rw [fl_at h,hL i hi];rfl
theorem fl_ok {p:List Pg} (h : ∀ x∈p,PgOk x) (L:Nat→Bool) : ∀ x∈fl p L,x.1.length=128:=fun x hx=>by
 obtain ⟨i,hi⟩:=List.getElem?_of_mem hx
 cases hp:p[i]? with
 | none=>rw [List.getElem?_eq_none_iff.2 (by rw [fl_len];exact List.getElem?_eq_none_iff.1 hp)] at hi;cases hi
 | some y =>
   rw [fl_at hp] at hi
   injection hi with hi
   have hy:=h y (List.mem_of_getElem? hp)
   rw [←hi]
   split
   · exact hy.1
   · exact hy.now.1
theorem put_all {old s:List Int} (h:old.length=s.length):put old 0 s=s:=by
 unfold put
 rw [List.take_zero,Nat.zero_add,List.drop_of_length_le (by omega),List.append_nil,List.nil_append]
structure FlI (w:World) (p g mb cap m:Nat) (d:Dk) (r:Nat) (L:Nat→Bool) (cnt:Nat) (wr:World):Prop where
 rng:PgRng wr mb r m d.p L cnt
 kp:Bk wr p #[.slice (some ⟨g,0,none⟩) d.p.length cap,.map (some mb),.bool d.off,.int .i64 d.trip] 79
 pg:Pages wr g (fl d.p L)
 ch:Chg (In3 p g mb) w wr
 hr:w.heap.size≤r
set_option maxRecDepth 100000 in
theorem flush_ok (w:World) (p g mb cap m:Nat) (d:Dk) (h:DkIs w p g mb cap m d) (ho:d.off=false) (hst:d.step.2=true) :
 Calls Tryd.prog 43 #[.pointer (some ⟨p,0,none⟩)] w (WritePost p g mb cap m w { d.step.1 with p:=d.step.1.p.map fun x=>(x.now,none) } 0):=by
 have c2:=h.kp.cell 2 rfl
 have hSt:=Bx.mk (step_any w p g mb cap m d h)
 rw [hst,show errS true=0 from rfl] at hSt
 have HL:=Bx.mk h.lt
 clear h hst
 generalize d.step.1=d1 at *
 go_enter Tryd.func43,Tryd.ntmps43
 go_upto_region 6 with (go_at_call 68;refine hSt.out.mono ?_;rintro _ w1 ⟨rfl,hd,hc⟩;replace hd:=Bx.mk hd;replace hc:=Bx.mk hc)
 have hfew:=hd.out.ok.few
 obtain ⟨w2,cnt,hrun,hrg,hb2,hz2,-⟩:=hd.out.km.range (by omega)
 have c1:=hd.out.kp.cell 1 rfl
 have HI:Bx (FlI w p g mb cap m d1 w1.heap.size (fun i=>(d1.p[i]?.bind (·.2)).isSome) cnt w2) :=
  ⟨hrg,hd.out.kp.later hb2,by rw [fl_start];exact hd.out.pg.later hb2,(DkIs.chgP hc.out).later hb2 hc.out.size,hc.out.size⟩
 have hok:=Bx.mk hd.out.ok
 have hne:=Bx.mk hd.out.ne
 have hps:=Bx.mk hd.out.pos
 have hca:=Bx.mk hd.out.hcap
 have hlt:=Bx.mk hd.out.lt
 have hsz:=Bx.mk hc.out.size
 clear hSt hrg hb2 hz2 hd hc
 go_wp2_with fail
 generalize hr:w1.heap.size=r at *
 have hr:=Bx.mk hr
 go_loopw [20] (fun v20 wr => ∃ L cnt,v20=v20∧Bx (FlI w p g mb cap m d1 r L cnt wr)) (fun _ wr=>wr.rangeLeft mb r)
 case atStart=>exact ⟨_,_,rfl,HI⟩
 case round =>
  clear HI hrun c1
  obtain ⟨L,cnt,-,HI⟩:=hrel
  rcases HI.out.rng.next (by omega) 0 with ⟨-,hL,hrun⟩ | ⟨i,n,w3,cnt3,hi,hn,hL,hrun,hrg3,hlt3,hc3,hz3,hen⟩
  · have hrun : ∀ ty,(Instr.next (.pointer (some ⟨r,0,none⟩)) false ty).run Tryd.prog _=_:=fun _=>hrun
    have c1:=HI.out.kp.cell 1 rfl
    obtain ⟨w4,hcl,hm4,hc4⟩:=HI.out.rng.map.clear 0 (q:=d1.p.map fun x=>(x.now,none)) (fun x hx=>by obtain ⟨y,_,rfl⟩:=List.mem_map.1 hx;rfl)
    have hD:Bx (DkIs w4 p g mb cap m { d1 with p:=d1.p.map fun x=>(x.now,none) }):=by
     have hl:(d1.p.map fun x=>(x.now,(none:Option (List Int)))).length=d1.p.length:=List.length_map ..
     refine ⟨⟨⟨fun x hx=>?_,hok.out.lo,hok.out.hi,?_⟩,?_,?_,?_,?_,hm4,hne.out⟩⟩
     · obtain ⟨y,hy,rfl⟩:=List.mem_map.1 hx
       exact ⟨(hok.out.pages y hy).now.1,(hok.out.pages y hy).now.2,fun n h=>by cases h⟩
     · show (d1.p.map _).length≤120
       rw [hl];exact hok.out.few
     · show 0<(d1.p.map _).length
       rw [hl];exact hps.out
     · show (d1.p.map _).length≤cap∧_
       rw [hl];exact hca.out
     · show Bk w4 p #[.slice _ (d1.p.map _).length cap,_,_,_] _
       rw [hl];exact HI.out.kp.chg hc4 (fun e=>hne.out.2.2 e)
     · exact (HI.out.pg.same (fl_end hL).symm).chg hc4 (fun e=>hne.out.2.1 e)
    have hC:=Bx.mk (HI.out.ch.trans hc4 (fun k _ e=>.inr (.inr e)))
    clear hm4 hc4 HI
    go_wp2_with fail
    go_ret
    exact ⟨rfl,hD.out,hC.out⟩
  · have hrun : ∀ ty,(Instr.next (.pointer (some ⟨r,0,none⟩)) false ty).run Tryd.prog _=_:=fun _=>hrun
    have hl:n.length=128:=((hok.out.pages _ (List.getElem_mem hi)).2.2 n (by rw [List.getElem?_eq_getElem hi] at hn;exact hn)).1
    have s1:=Bx.mk (pgInfo _ ((row_cells n .u8).trans hl))
    have hZ:Bx (Tryd.zeroCells105.size=128):=⟨by kernel_rfl⟩
    have s2:=Bx.mk (show Tryd.zeroCells105.size=(n.map (Value.int .u8)).toArray.size by rw [row_cells,hZ.out,hl])
    have s3:=Bx.mk (one_ints .u8 n)
    unfold arrV at hrun hen
    replace hz3:=Bx.mk hz3
    replace hc3:=Bx.mk hc3
    replace hrg3:=Bx.mk hrg3
    replace hl:=Bx.mk hl
    replace hn:=Bx.mk hn
    replace hL:=Bx.mk hL
    go_upto_region 9 with (refine wpList_store_whole rfl _ _ _ rfl w3.heap.size rfl _ _ rfl _ (heap_alloc_new w3 (.cells Tryd.zeroCells105 105)) s1.out s2.out s3.out ?_)
    simp only [Act.put]
    generalize hW:World.setRow (World.alloc w3 _) _ _=W4
    have kq:Bx (Bk W4 w3.heap.size (n.map (Value.int .u8)).toArray 105):=by rw [←hW];exact ⟨setRow_heap _ _ _ _ _ (0,0) (heap_alloc_new _ _)⟩
    have hb4:Bx (Below w3.heap.size w3 W4):=by rw [←hW];exact ⟨below_setRow ((Below.refl _ _).alloc (Nat.le_refl _) _) (Nat.le_refl _) _⟩
    have hc4:=hc3.out.later hb4.out hc3.out.size
    clear hW hrun hen
    have hle:=Bx.mk HI.out.rng.left_eq
    have hrN:p ≠ r∧g ≠ r∧mb ≠ r:=by have:=hlt.out;omega
    have HI4:Bx (FlI w p g mb cap m d1 r (fun j=>L j && !decide (j=i)) cnt3 W4→True):=⟨fun _=>trivial⟩
    have kp4:=Bx.mk (HI.out.kp.chg hc4 hrN.1)
    have pg4:=Bx.mk (HI.out.pg.chg hc4 hrN.2.1)
    have rg4:=Bx.mk (hrg3.out.chg (.ofBelow hb4.out (fun _=>False)) (fun e=>e) (fun e=>e))
    have ch4:Bx (Chg (In3 p g mb) w W4):=⟨HI.out.ch.trans (hc4.mono (T:=(· = r)) (fun _ _ e=>e)) (fun k hk e=>by have:=HI.out.hr;omega)⟩
    have hr4:=Bx.mk HI.out.hr
    clear HI4 HI hc4 hb4 hrg3 hc3
    have c0 : ∀ dk osk,(grow (redrawn W4 dk) osk).cell? ⟨p,0,none⟩=some (.slice (some ⟨g,0,none⟩) d1.p.length cap):=cell_regrown (kp4.out.cell 0 rfl)
    have hrg:Bx (∀ W,(∃ P:Regrown,W=grow (redrawn W4 P.d) P.os)→W.rangeAt w3.heap.size 0 (n.map (Value.int .u8))):=⟨by
     rintro _ ⟨P,rfl⟩ j v hv
     refine cell_regrown (?_) _ _
     rw [Nat.zero_add]
     exact kq.out.cell j (by rw [List.getElem?_toArray];exact hv)⟩
    have b0:(0:Int)≤(i:Int):=by omega
    have b1:(i:Int)<(d1.p.length:Int):=by omega
    refine wp_region_head_below 7 (by kernel_rfl) (by kernel_rfl) ?_
    simp only [List.take_succ_cons,List.take_zero,List.drop_succ_cons,List.drop_zero]
    repeat (first
     | refine wpQuiet_load_mid rfl _ _ rfl w3.heap.size 0 rfl _ _ hrg.out Tryd.underlying105 rfl (by have:=s1.out;rwa [List.size_toArray] at this) ?_
     | go_big_quiet_step (fail) | quiet_step (fail))
    refine wpQuiet_nil ?_
    rintro _ ⟨⟨dq,osq⟩,rfl⟩
    have hb5:=below_regrown W4 dq osq
    replace kp4:=Bx.mk (kp4.out.later hb5)
    replace pg4:=Bx.mk (pg4.out.later hb5)
    replace rg4:=Bx.mk (rg4.out.chg (.ofBelow hb5 (fun _=>False)) (fun e=>e) (fun e=>e))
    replace ch4:=Bx.mk (ch4.out.later hb5 ch4.out.size)
    clear c0 hrg hb5 kq
    generalize grow (redrawn W4 dq) osq=W5 at *
    have hfi:i<(fl d1.p L).length:=by rw [fl_len];exact hi
    have hth:=Bx.mk (pg4.out.there hfi)
    go_wp2_with (refine wpList_store_mid rfl _ _ _ rfl g (i * 128) _ rfl rfl (by rw [row_cells,hl.out];exact hth.out) s1.out s3.out ?_)
    simp only [Act.put]
    have HI6:Bx (FlI w p g mb cap m d1 r (fun j=>L j && !decide (j=i)) cnt3 (W5.setCells g (i * 128) (n.map (Value.int .u8)))):=by
     have hc6:Chg (· = g) W5 (W5.setCells g (i * 128) (n.map (Value.int .u8))):=Chg.setCells (S:=(· = g)) (Chg.refl _ _) (.inl rfl) _ _
     refine ⟨⟨rg4.out.chg hc6 (fun e=>hne.out.2.1 e.symm) (fun e=>hrN.2.1 e.symm),kp4.out.chg hc6 hne.out.1,?_,ch4.out.setCells (.inl (.inr (.inl rfl))) _ _,hr4.out⟩⟩
     have:=pg4.out.put (i:=i) (o:=0) (ys:=n) (fl_ok hok.out.pages L) (by rw [hl.out];omega) (fun x=>(n,x.2)) (fun x hx=>(put_all (by rw [fl_ok hok.out.pages L x (List.mem_of_getElem? hx),hl.out])).symm)
     rw [Nat.add_zero,←fl_step L hn.out hL.out] at this
     exact this
    clear rg4 kp4 pg4 ch4 hth
    go_roundw
    case rel=>exact ⟨_,_,trivial,HI6⟩
    case measure=>rw [HI6.out.rng.left_eq,hle.out];omega
end
section
open Go.RowKit Go.Sort Go.Maps
set_option maxRecDepth 100000 in
set_option maxHeartbeats 1000000 in
theorem put_any (dp i:Value) (s:ByteArray) (dq:Nat) (k:Int) (hd:dp = .pointer (some ⟨dq,0,none⟩)) (hi:i = .int .i64 k) (w:World) :
 Calls Tryd.prog 42 #[dp,i,.string s] w fun e w'=>e = .returned (.func (.func 66) #[] #[.pointer (some ⟨w.heap.size,0,none⟩),.pointer (some ⟨w.heap.size+1,0,none⟩),.pointer (some ⟨w.heap.size+1+1,0,none⟩)])∧Below w.heap.size w w'∧Bk w' w.heap.size #[dp] 24∧Bk w' (w.heap.size+1) #[i] 3∧Bk w' (w.heap.size+1+1) #[.string s] 9:=by
 subst hd hi
 go_enter Tryd.func42,Tryd.ntmps42
 go_wp2_with fail
 go_ret
 refine ⟨rfl,(((Below.refl _ _).alloc (Nat.le_refl _) _).alloc (by simp) _).alloc (by simp;omega) _,?_,?_,?_⟩
 · exact blk_old (blk_old (blk_new _ _ _ rfl))
 · exact blk_old (blk_new _ _ _ (by simp))
 · exact blk_new _ _ _ (by simp)
set_option maxRecDepth 100000 in
set_option maxHeartbeats 1000000 in
theorem put1_any (a b c:Nat) (dp:Value) (dq:Nat) (i:Int) (s:ByteArray) (hd:dp = .pointer (some ⟨dq,0,none⟩)) (w:World) (ha:Bk w a #[dp] 24) (hb:Bk w b #[.int .i64 i] 3) (hc:Bk w c #[.string s] 9)
 (R:Ending→World→Prop) (HR : ∀ e w',R e w' → ∃ er:Int,e = .returned (.int .i64 er))
 (hw:Bx (Calls Tryd.prog 67 #[.pointer (some ⟨dq,0,none⟩),.int .i64 i,.int .i64 0,.string s] w R)) :
 Calls Tryd.prog 66 #[.pointer (some ⟨a,0,none⟩),.pointer (some ⟨b,0,none⟩),.pointer (some ⟨c,0,none⟩)] w R:=by
 subst hd
 have c0:=ha.cell 0 rfl
 have c1:=hb.cell 0 rfl
 have c2:=hc.cell 0 rfl
 have HRb:=Bx.mk HR
 clear ha hb hc HR
 go_enter Tryd.func66,Tryd.ntmps66
 go_wp2_with fail
 refine hw.out.mono ?_
 intro e w' h
 obtain ⟨er,rfl⟩:=HRb.out e w' h
 have H:=Bx.mk h
 clear h c0 c1 c2 hw HRb
 go_wp2_with fail
 exact H.out
set_option maxRecDepth 100000 in
set_option maxHeartbeats 1000000 in
theorem prun_any (ga off n cap:Nat) (hn:n≤100000) (fid:Nat→FuncId) (bd cp:Nat→Array Value) (J:Nat→World→Prop) (Q:Int→World→Prop) (w:World) (h0:J 0 w)
 (HE:Bx (∀ k,k<n → ∀ (args:Array Value) W,(callFunc (fid k) args).run Tryd.prog W = .ok (.enter (fid k) args) W))
 (HC:Bx (∀ k,k<n → ∀ W,J k W→W.cell? ⟨ga,off+k,none⟩=some (.func (.func (fid k)) (bd k) (cp k))))
 (HS:Bx (∀ k,k<n → ∀ W,J k W→Calls Tryd.prog (fid k) (bd k++cp k) W fun e w'=>(e = .returned (.int .i64 0)∧J (k+1) w') ∨ ∃ er:Int,er ≠ 0∧e = .returned (.int .i64 er)∧Q er w')) :
 Calls Tryd.prog 44 #[.slice (some ⟨ga,off,none⟩) n cap] w fun e w'=>(e = .returned (.int .i64 0)∧J n w') ∨ ∃ er:Int,er ≠ 0∧e = .returned (.int .i64 er)∧Q er w':=by
 have H0:=Bx.mk h0
 clear h0
 go_enter Tryd.func44,Tryd.ntmps44
 go_wp2_with fail
 go_loopw [8] (fun i wr => ∃ k:Nat,k≤n∧i = .int .i64 k∧Bx (J k wr)) (fun i _=>n - (intOf i).toNat)
 case atStart=>exact ⟨0,Nat.zero_le _,rfl,H0⟩
 case round =>
  clear H0
  obtain ⟨k,hk,rfl,HI⟩:=hrel
  by_cases hlt:k<n
  · have t0:decide ((k:Int)<(n:Int))=true:=by simp;omega
    have b1:(0:Int)≤(k:Int):=by omega
    have b2:(k:Int)<(n:Int):=by omega
    have c0:=HC.out k hlt wr HI.out
    have hs:=Bx.mk (HS.out k hlt wr HI.out)
    have he:=Bx.mk (HE.out k hlt)
    have Hlt:=Bx.mk hlt
    clear hlt
    obtain ⟨fk,hfk⟩ : ∃ f,f=fid k:=⟨_,rfl⟩
    obtain ⟨bk,hbk⟩ : ∃ f,f=bd k:=⟨_,rfl⟩
    obtain ⟨ck,hck⟩ : ∃ f,f=cp k:=⟨_,rfl⟩
    rw [←hfk] at hs he c0
    rw [←hbk] at hs c0
    rw [←hck] at hs c0
    clear hfk hbk hck HE HC HS HI
    go_wp2_with fail
    rw [he.out _ _]
    refine hs.out.mono ?_
    intro e w2 h
    clear hs he c0
    rcases h with ⟨rfl,hJ⟩ | ⟨er,hne,rfl,hQ⟩
    · have HJ:=Bx.mk hJ
      clear hJ
      go_wp2_with fail
      go_roundw
      case rel=>exact ⟨k+1,by have:=Hlt.out;omega,by go_num,HJ⟩
      case measure=>have:=Hlt.out;simp [intOf];omega
    · have HQ:=Bx.mk hQ
      have HN:=Bx.mk hne
      have n1:(er != 0)=true:=by simpa using hne
      have n2:(er == 0)=false:=by simpa using hne
      clear hQ
      go_wp2_with fail
      go_ret
      exact .inr ⟨er,HN.out,rfl,HQ.out⟩
  · obtain rfl:k=n:=by omega
    have t0:decide ((k:Int)<(k:Int))=false:=by simp
    go_wp2_with fail
    go_ret
    exact .inl ⟨rfl,HI.out⟩
end
section
open Go.RowKit Go.Sort Go.Maps
def two (x:Nat):List Int:=[((x % 256:Nat):Int),((x / 256 % 256:Nat):Int)]
def recG (l:List Nat) (k:Nat):List Int:=((l.length % 256:Nat):Int)::(l.take k).flatMap two
theorem recG_len {l:List Nat} {k:Nat} (h:k≤l.length):(recG l k).length=1+2 * k:=by
 have : ∀ m:List Nat,(m.flatMap two).length=2 * m.length:=fun m=>by
  induction m with
  | nil=>rfl
  | cons x m ih=>rw [List.flatMap_cons,List.length_append,ih,List.length_cons];simp [two];omega
 unfold recG
 rw [List.length_cons,this,List.length_take];omega
theorem recG_succ {l:List Nat} {k x:Nat} (h:l[k]? = some x):recG l k++two x=recG l (k+1):=by
 have hk:k<l.length:=(List.getElem?_eq_some_iff.1 h).1
 unfold recG
 rw [List.take_succ_eq_append_getElem hk,List.flatMap_append,List.cons_append]
 rw [List.getElem?_eq_getElem hk] at h
 rw [Option.some.inj h];simp
theorem recG_rec (l:List Nat):recG l l.length++zerosP (115 - 2 * l.length)=recP l:=by
 unfold recG recP
 rw [List.take_of_length_le (Nat.le_refl _)];rfl
set_option maxRecDepth 100000 in
set_option maxHeartbeats 1000000 in
theorem record_any (a:Option Addr) (cap:Nat) (l:List Nat) (hl:l.length≤57) (hx : ∀ x∈l,x<65536) (w:World) (hs:Sl w .i64 a (l.map fun (x:Nat)=>(x:Int))) :
 Calls Tryd.prog 47 #[.slice a l.length cap] w fun e w'=>e = .returned (.string (strOfNums (recP l)))∧Below w.heap.size w w':=by
 obtain ⟨n,hn⟩ : ∃ n,n=l.length:=⟨_,rfl⟩
 have f1:IntKind.u8.wrap ((n:Nat):Int)=((n % 256:Nat):Int):=by rw [IntKind.wrap_u8];omega
 obtain ⟨n8,hn8⟩ : ∃ x:Int,x=((n % 256:Nat):Int):=⟨_,rfl⟩
 rw [←hn8] at f1
 have hsl1:Sl (w.alloc (.cells #[.int .u8 n8] 5)) .u8 (some ⟨w.heap.size,0,none⟩) [n8]:=fun i x hx=>⟨w.heap.size,0,rfl,by
  have hk:Bk (w.alloc (.cells #[.int .u8 n8] 5)) w.heap.size #[.int .u8 n8] 5:=Bk.new _ _ _
  rw [Nat.zero_add]
  match i,hx with
  | 0,hx=>obtain rfl:=Option.some.inj hx;exact hk.cell 0 rfl
  | i+1,hx=>cases hx⟩
 have hcv:=conv_str (P:=Tryd.prog) 75 5 9 Tryd.underlying75 Tryd.underlying5 Tryd.underlying9 hsl1 1 1 rfl
 have hr0:[n8]=recG l 0:=by unfold recG;rw [List.take_zero,hn8,hn];rfl
 rw [hr0] at hcv
 have hby:Bx (∀ (x:Nat) W,Calls Tryd.prog 69 #[.int .i64 (x:Int),.int .i64 2] W fun e w'=>e = .returned (.string (strOfNums (two x)))∧Below W.heap.size W w'):=⟨fun x W=>by
  have:=bytes_any x 2 (by decide) W
  rwa [bytes_two] at this⟩
 have HS:=Bx.mk hs
 have HX:=Bx.mk hx
 have Hn:=Bx.mk hn
 obtain ⟨q,hq⟩ : ∃ q:Nat,q=115 - 2 * n:=⟨_,rfl⟩
 obtain ⟨z,hz⟩ : ∃ z:Nat,z=1+2 * n:=⟨_,rfl⟩
 have hbl:=Bx.mk fun W=>blank_any q (by omega) W
 have hfin:Bx (strOfNums (recG l n)++strOfNums (zerosP q)=strOfNums (recP l)):=⟨by rw [str_append,hq,hn,recG_rec]⟩
 have zfin:Bx ((strOfNums (zerosP q)).size=q):=⟨by rw [strOfNums_size];simp [zerosP]⟩
 have zn:Bx ((strOfNums (recG l n)).size=z):=⟨by rw [strOfNums_size,recG_len (by omega),hz]⟩
 have ez:Bx (IntKind.i64.wrap (116 - (z:Int))=(q:Int)):=⟨by rw [show 116 - (z:Int)=(q:Int) by omega];exact IntWalk.i64_in _ (by omega)⟩
 have lz:Bx (z≤200∧q≤200):=⟨by omega⟩
 rw [←hn] at hl
 rw [←hn]
 clear hsl1 hr0 hn8 hs hx hn hq hz
 go_enter Tryd.func47,Tryd.ntmps47
 go_wp2_with fail
 clear hcv f1
 go_loopw [3,13] (fun v3 v13 wr => ∃ k:Nat,k≤n∧v13 = .int .i64 k∧v3 = .string (strOfNums (recG l k))∧Bx (Below w.heap.size w wr)) (fun _ i _=>n - (intOf i).toNat)
 case atStart=>exact ⟨0,Nat.zero_le _,rfl,rfl,⟨(Below.refl _ _).alloc (Nat.le_refl _) _⟩⟩
 case round =>
  obtain ⟨k,hk,rfl,rfl,HW⟩:=hrel
  by_cases hlt:k<n
  · have t0:decide ((k:Int)<(n:Int))=true:=by simp;omega
    have hkl:k<l.length:=by rw [←Hn.out];exact hlt
    obtain ⟨x,hx⟩ : ∃ x,l[k]? = some x:=⟨_,List.getElem?_eq_getElem hkl⟩
    obtain ⟨b,off,rfl,hc⟩:=HS.out k (x:Int) (by rw [List.getElem?_map,hx];rfl)
    have c0:=cell_later HW.out hc
    have hadd:strOfNums (recG l k)++strOfNums (two x)=strOfNums (recG l (k+1)):=by rw [str_append,recG_succ hx]
    have z1:(strOfNums (recG l k)).size=1+2 * k:=by rw [strOfNums_size,recG_len (by omega)]
    have z2:(strOfNums (two x)).size=2:=by rw [strOfNums_size];rfl
    have hb:=Bx.mk (hby.out x)
    have b1:(0:Int)≤(k:Int):=by omega
    have b2:(k:Int)<(n:Int):=by omega
    clear hx hc hkl
    obtain ⟨S2,hS2⟩ : ∃ S2,S2=strOfNums (recG l (k+1)):=⟨_,rfl⟩
    rw [←hS2] at hadd
    have HS2:=Bx.mk hS2
    clear hS2
    generalize strOfNums (recG l k)=S1 at *
    generalize strOfNums (two x)=S0 at *
    go_wp2_with fail
    refine (hb.out _).mono ?_
    rintro _ w2 ⟨rfl,hw2⟩
    have HB2:=Bx.mk (HW.out.trans (hw2.mono HW.out.size))
    clear hw2 hb c0
    go_wp2_with fail
    go_roundw
    case rel=>exact ⟨k+1,by omega,by go_num,by rw [←HS2.out],HB2⟩
    case measure=>simp [intOf];omega
  · obtain rfl:k=n:=by omega
    have t0:decide ((k:Int)<(k:Int))=false:=by simp
    have hf:=hfin.out
    have z1:=zn.out
    have z2:=zfin.out
    have e1:=ez.out
    obtain ⟨l1,l2⟩:=lz.out
    generalize strOfNums (recG l k)=S1 at *
    generalize strOfNums (zerosP q)=S0 at *
    clear hby HS HX hfin zn zfin ez lz
    go_wp2_with fail
    refine (hbl.out _).mono ?_
    rintro _ w2 ⟨rfl,hw2⟩
    have HB2:=Bx.mk (HW.out.trans (hw2.mono HW.out.size))
    clear hw2 hbl
    go_wp2_with fail
    go_ret
    exact ⟨by first | rfl | rw [hf],HB2.out⟩
end
end Go.Proofs.YtajhkncolbgkbaaDoor
