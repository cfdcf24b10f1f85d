/- Jpk, Jst, Jck, Jnx, Jor: joined by program, for one claim. -/
import Derived.Test.YtajhkncolbgkbaaDoorMr
import Derived.Test.YtajhkncolbgkbaaDoorM15
import Derived.Test.YtajhkncolbgkbaaDoorM12
import Derived.Shelf.Abstract
set_option linter.unusedVariables false
set_option linter.unusedSimpArgs false
namespace Go.Proofs.YtajhkncolbgkbaaDoor
section
open Go.RowKit Go.Sort Go.Maps Go.ChangeShapes Go.WideShapes
set_option maxRecDepth 100000 in
set_option maxHeartbeats 4000000 in
theorem pcheck_big (w:World) (pp dp N g mb cap m:Nat) (bv:Value) (cl:Bool) (d:Dk) (hp:PS w pp dp N bv cl) (h:DkIs w dp g mb cap m d) (a:Option Addr) (c:Nat) (l:List (Int × List Int)) (hl:l.length≤1000) (hs:SlP w a l) (hw64 : ∀ x∈l,(-9223372036854775808≤x.1∧x.1≤9223372036854775807)∧x.2.length≤9223372036854775807) :
 Calls Tryd.prog 45 #[.pointer (some ⟨pp,0,none⟩),.slice a l.length c] w fun e w'=>e = .returned (.int .i64 (chkV cl N ((d.p.length:Int) - 17) l))∧Below w.heap.size w w':=by
 have c1:=hp.cell 1 rfl
 have c3:=hp.cell 3 rfl
 have hlen:=Bx.mk fun W (hb:Below w.heap.size w W)=>((plen_any W pp dp N g mb cap m bv cl d (hp.later hb) (h.later hb)).mono fun e w' h=>(⟨h.1,h.2 ▸ Below.refl _ _⟩:e = .returned (.int .i64 ((d.p.length:Int) - 17))∧Below W.heap.size W w'))
 clear hp h
 generalize (d.p.length:Int) - 17=md at *
 unfold chkV
 cases cl with
 | true =>
   rw [if_pos rfl]
   go_enter Tryd.func45,Tryd.ntmps45
   go_wp2_with fail
   go_ret
   exact ⟨rfl,Below.refl _ _⟩
 | false =>
   rw [if_neg (by decide)]
   obtain ⟨n,hn⟩ : ∃ n,n=l.length:=⟨_,rfl⟩
   have Hn:=Bx.mk hn
   rw [←hn] at hl ⊢
   by_cases h1:16<n
   · have t1:decide ((n:Int) > 16)=true:=by simp;omega
     have t1b:decide (16<n)=true:=by simpa using h1
     rw [if_pos (.inl h1)]
     clear hs hn
     go_enter Tryd.func45,Tryd.ntmps45
     go_wp2_with fail
     go_ret
     exact ⟨rfl,Below.refl _ _⟩
   · have t1:decide ((n:Int) > 16)=false:=by simp;omega
     have t1b:decide (16<n)=false:=by simp;omega
     by_cases h2:1073741824≤N
     · have t2:decide ((N:Int) ≥ 1073741824)=true:=by simp;omega
       have t2b:decide (1073741824≤N)=true:=by simpa using h2
       rw [if_pos (.inr h2)]
       clear hs hn
       go_enter Tryd.func45,Tryd.ntmps45
       go_wp2_with fail
       go_ret
       exact ⟨rfl,Below.refl _ _⟩
     · have t2:decide ((N:Int) ≥ 1073741824)=false:=by simp;omega
       have t2b:decide (1073741824≤N)=false:=by simp;omega
       rw [if_neg (by omega)]
       by_cases h3:n=0
       · have t3:((n:Int) == 0)=true:=by simp [h3]
         rw [if_pos h3]
         clear hs hn
         go_enter Tryd.func45,Tryd.ntmps45
         go_wp2_with fail
         go_ret
         exact ⟨rfl,Below.refl _ _⟩
       · have t3:((n:Int) == 0)=false:=by simp;omega
         have t3b : ¬(n:Int)=0:=by omega
         rw [if_neg h3]
         have HSl:=Bx.mk hs
         have H64:=Bx.mk hw64
         have HR0:Bx (okTo md l n→okV md l=0):=⟨fun h=>okV_yes (by rw [←Hn.out];exact h)⟩
         have HR1:Bx (¬okTo md l n→okV md l=1):=⟨fun h=>okV_no (by rw [←Hn.out];exact h)⟩
         clear hs hn hw64 h1 h2 h3
         go_enter Tryd.func45,Tryd.ntmps45
         go_wp2_with fail
         clear c1 c3 t1 t1b t2 t2b t3 t3b
         go_loopw [29] (fun v29 wr => ∃ k:Nat,k≤n∧v29 = .int .i64 k∧Bx (okTo md l k)∧Bx (Below w.heap.size w wr)) (fun i _=>n - (intOf i).toNat)
         case atStart=>exact ⟨0,Nat.zero_le _,rfl,⟨okTo.zero _ _⟩,⟨Below.refl _ _⟩⟩
         case round =>
          obtain ⟨k,hk,rfl,HO,HW⟩:=hrel
          by_cases hlt:k<n
          · have t0:decide ((k:Int)<(n:Int))=true:=by simp;omega
            obtain ⟨x,hx⟩ : ∃ x,l[k]? = some x:=⟨_,List.getElem?_eq_getElem (by rw [←Hn.out];exact hlt)⟩
            obtain ⟨b,off,rfl,hc1,hc2⟩:=HSl.out k x hx
            have z0:=cell_later HW.out hc1
            have z1:=cell_later HW.out hc2
            have h64:=H64.out x (List.mem_of_getElem? hx)
            have HX:=Bx.mk hx
            have b1:(0:Int)≤(k:Int):=by omega
            have b2:(k:Int)<(n:Int):=by omega
            have Hlt:=Bx.mk hlt
            obtain ⟨xp,xt⟩:=x
            simp only at z0 z1 h64
            clear hx hc1 hc2 hlt
            go_upto_region 10 with fail
            clear z0 z1 t0
            generalize hW:World.alloc wr _=W
            have hbW:=bl1 hW
            have KX:Bk W wr.heap.size #[.int .i64 xp,.string (strOfNums xt)] 93:=bk0 hW rfl
            clear hW
            have HBW:=Bx.mk (HW.out.trans (hbW.mono HW.out.size))
            have q0:=Bx.mk fun dk osk=>Calls.regrown_of (hlen.out (grow (redrawn W dk) osk) (HBW.out.trans ((below_regrown W dk osk).mono HBW.out.size)))
            obtain ⟨x0,x1⟩:=KX.r2
            obtain ⟨sz,hsz0⟩ : ∃ n,n=xt.length:=⟨_,rfl⟩
            have hsz:(strOfNums xt).size=sz:=by rw [strOfNums_size,hsz0]
            have Hsz:=Bx.mk hsz0
            have l1:sz≤9223372036854775807:=by omega
            clear hbW KX hsz0 h64 HW hlen
            generalize strOfNums xt=Sx at *
            have y0:True:=trivial
            by_cases c1:xp<0
            · have n1:decide (xp<0)=true:=by simpa using c1
              have HF:Bx (okV md l=1):=⟨HR1.out fun h=>by have:=(h k _ Hlt.out HX.out).1;simp only at this;omega⟩
              clear c1
              refine wp_region_quiet_below (by kernel_rfl) (by kernel_rfl) ?_
              repeat (first
               | go_big_quiet_step (first | with_reducible exact q0.out _ _)
               | quiet_step (first | with_reducible exact q0.out _ _))
              refine wpQuiet_nil ?_
              rintro _ ⟨⟨dq,osq⟩,rfl⟩
              have hbq:=below_regrown W dq osq
              have HJ:=Bx.mk (HBW.out.trans (hbq.mono HBW.out.size))
              clear hbq x0 x1 y0 q0 hsz
              generalize grow (redrawn W dq) osq=w9 at *
              go_wp2_with fail
              go_ret
              exact ⟨by rw [HF.out];first | rfl | trivial,HJ.out⟩
            · have n1:decide (xp<0)=false:=by simpa using c1
              by_cases c2:md≤xp
              · have n2:decide (xp ≥ md)=true:=by simpa using c2
                have HF:Bx (okV md l=1):=⟨HR1.out fun h=>by have:=(h k _ Hlt.out HX.out).2.1;simp only at this;omega⟩
                clear c1 c2
                refine wp_region_quiet_below (by kernel_rfl) (by kernel_rfl) ?_
                repeat (first
                 | go_big_quiet_step (first | with_reducible exact q0.out _ _)
                 | quiet_step (first | with_reducible exact q0.out _ _))
                refine wpQuiet_nil ?_
                rintro _ ⟨⟨dq,osq⟩,rfl⟩
                have hbq:=below_regrown W dq osq
                have HJ:=Bx.mk (HBW.out.trans (hbq.mono HBW.out.size))
                clear hbq x0 x1 y0 q0 hsz
                generalize grow (redrawn W dq) osq=w9 at *
                go_wp2_with fail
                go_ret
                exact ⟨by rw [HF.out];first | rfl | trivial,HJ.out⟩
              · have n2:decide (xp ≥ md)=false:=by simpa using c2
                by_cases c3:sz=116
                · subst c3
                  have n3:(((116:Nat):Int) != 116)=false:=by decide
                  rcases Nat.eq_zero_or_pos k with c4 | c4
                  · have n4:decide ((k:Int) > 0)=false:=by simp;omega
                    have n4b:decide (0<k)=false:=by simp;omega
                    have HG:Bx (okTo md l (k+1)):=⟨HO.out.succ HX.out ⟨by simp only;omega,by simp only;omega,Hsz.out.symm,fun h=>absurd h (by omega)⟩⟩
                    clear c1 c2
                    refine wp_region_quiet_below (by kernel_rfl) (by kernel_rfl) ?_
                    repeat (first
                     | go_big_quiet_step (first | with_reducible exact q0.out _ _)
                     | quiet_step (first | with_reducible exact q0.out _ _))
                    refine wpQuiet_nil ?_
                    rintro _ ⟨⟨dq,osq⟩,rfl⟩
                    have hbq:=below_regrown W dq osq
                    have HJ:=Bx.mk (HBW.out.trans (hbq.mono HBW.out.size))
                    clear hbq x0 x1 y0 q0 hsz
                    generalize grow (redrawn W dq) osq=w9 at *
                    go_wp2_with fail
                    go_roundw
                    case rel=>exact ⟨k+1,by have:=Hlt.out;omega,by go_num,HG,HJ⟩
                    case measure=>have:=Hlt.out;simp [intOf];omega
                  · have n4:decide ((k:Int) > 0)=true:=by simp;omega
                    have n4b:decide (0<k)=true:=by simp;omega
                    obtain ⟨jm,hjm⟩ : ∃ n:Nat,n=k - 1:=⟨_,rfl⟩
                    have e6:IntKind.i64.wrap ((k:Int) - 1)=(jm:Int):=by rw [show (k:Int) - 1=(jm:Int) by omega];exact IntWalk.i64_in _ (by omega)
                    obtain ⟨y,hy⟩ : ∃ y,l[jm]? = some y:=⟨_,List.getElem?_eq_getElem (by rw [←Hn.out];have:=Hlt.out;omega)⟩
                    obtain ⟨b',off',e,hy1,-⟩:=HSl.out jm y hy
                    simp only [Option.some.injEq,Addr.mk.injEq,and_true] at e
                    obtain ⟨rfl,rfl⟩:=e
                    have HY:=Bx.mk (show l[k - 1]? = some y by rw [←hjm];exact hy)
                    obtain ⟨yp,yt⟩:=y
                    simp only at hy1
                    clear y0
                    have y0 : ∀ dk osk,(grow (redrawn W dk) osk).cell? ⟨b,off+jm * 2,none⟩=some (.int .i64 yp):=cell_regrown (cell_later HBW.out hy1)
                    have b3:(0:Int)≤(jm:Int):=by omega
                    have b4:(jm:Int)<(n:Int):=by omega
                    have Hk0:=Bx.mk c4
                    clear hy hy1 hjm c4
                    by_cases c5:xp≤yp
                    · have n5:decide (yp ≥ xp)=true:=by simpa using c5
                      have HF:Bx (okV md l=1):=⟨HR1.out fun h=>by have:=(h k _ Hlt.out HX.out).2.2.2 Hk0.out _ HY.out;simp only at this;omega⟩
                      clear c1 c2 c5
                      refine wp_region_quiet_below (by kernel_rfl) (by kernel_rfl) ?_
                      repeat (first
                       | go_big_quiet_step (first | with_reducible exact q0.out _ _)
                       | quiet_step (first | with_reducible exact q0.out _ _))
                      refine wpQuiet_nil ?_
                      rintro _ ⟨⟨dq,osq⟩,rfl⟩
                      have hbq:=below_regrown W dq osq
                      have HJ:=Bx.mk (HBW.out.trans (hbq.mono HBW.out.size))
                      clear hbq x0 x1 y0 q0 hsz
                      generalize grow (redrawn W dq) osq=w9 at *
                      go_wp2_with fail
                      go_ret
                      exact ⟨by rw [HF.out];first | rfl | trivial,HJ.out⟩
                    · have n5:decide (yp ≥ xp)=false:=by simpa using c5
                      have HG:Bx (okTo md l (k+1)):=⟨HO.out.succ HX.out ⟨by simp only;omega,by simp only;omega,Hsz.out.symm,fun _ z hz=>by rw [HY.out] at hz;obtain rfl:=Option.some.inj hz;simp only;omega⟩⟩
                      clear c1 c2 c5
                      refine wp_region_quiet_below (by kernel_rfl) (by kernel_rfl) ?_
                      repeat (first
                       | go_big_quiet_step (first | with_reducible exact q0.out _ _)
                       | quiet_step (first | with_reducible exact q0.out _ _))
                      refine wpQuiet_nil ?_
                      rintro _ ⟨⟨dq,osq⟩,rfl⟩
                      have hbq:=below_regrown W dq osq
                      have HJ:=Bx.mk (HBW.out.trans (hbq.mono HBW.out.size))
                      clear hbq x0 x1 y0 q0 hsz
                      generalize grow (redrawn W dq) osq=w9 at *
                      go_wp2_with fail
                      go_roundw
                      case rel=>exact ⟨k+1,by have:=Hlt.out;omega,by go_num,HG,HJ⟩
                      case measure=>have:=Hlt.out;simp [intOf];omega
                · have n3:((sz:Int) != 116)=true:=by simp;omega
                  have HF:Bx (okV md l=1):=⟨HR1.out fun h=>by have:=(h k _ Hlt.out HX.out).2.2.1;simp only at this;have:=Hsz.out;omega⟩
                  clear c1 c2 c3
                  refine wp_region_quiet_below (by kernel_rfl) (by kernel_rfl) ?_
                  repeat (first
                   | go_big_quiet_step (first | with_reducible exact q0.out _ _)
                   | quiet_step (first | with_reducible exact q0.out _ _))
                  refine wpQuiet_nil ?_
                  rintro _ ⟨⟨dq,osq⟩,rfl⟩
                  have hbq:=below_regrown W dq osq
                  have HJ:=Bx.mk (HBW.out.trans (hbq.mono HBW.out.size))
                  clear hbq x0 x1 y0 q0 hsz
                  generalize grow (redrawn W dq) osq=w9 at *
                  go_wp2_with fail
                  go_ret
                  exact ⟨by rw [HF.out];first | rfl | trivial,HJ.out⟩
          · obtain rfl:k=n:=by omega
            have t0:decide ((k:Int)<(k:Int))=false:=by simp
            have hr:=HR0.out HO.out
            go_wp2_with fail
            go_ret
            exact ⟨by rw [hr];rfl,HW.out⟩
set_option maxRecDepth 100000 in
set_option maxHeartbeats 1000000 in
theorem pwrite_big (w:World) (pp dp N g mb cap m:Nat) (bv:Value) (cl:Bool) (d:Dk) (hp:PS w pp dp N bv cl) (h:DkIs w dp g mb cap m d) (a:Option Addr) (c:Nat) (l:List (Int × List Int)) (hl:l.length≤1000) (hs:SlP w a l) (hw64 : ∀ x∈l,(-9223372036854775808≤x.1∧x.1≤9223372036854775807)∧x.2.length≤9223372036854775807)
 (hne:chkV cl N ((d.p.length:Int) - 17) l ≠ 0) :
 Calls Tryd.prog 25 #[.pointer (some ⟨pp,0,none⟩),.slice a l.length c] w fun e w'=>e = .returned (.int .i64 (chkV cl N ((d.p.length:Int) - 17) l))∧Below w.heap.size w w':=by
 have hck:=Bx.mk (pcheck_big w pp dp N g mb cap m bv cl d hp h a c l hl hs hw64)
 generalize chkV cl N ((d.p.length:Int) - 17) l=er at *
 have n1:(er != 0)=true:=by simpa using hne
 have n2:(er == 0)=false:=by simpa using hne
 clear hp h hl hs hw64 hne
 generalize l.length=n at *
 go_enter Tryd.func25,Tryd.ntmps25
 go_wp2_with fail
 refine hck.out.mono ?_
 rintro _ w1 ⟨rfl,hb1⟩
 have HB:=Bx.mk hb1
 clear hb1 hck
 go_wp2_with fail
 go_ret
 exact ⟨rfl,HB.out⟩
theorem cellsPw : Tryd.prog.cellsOf 93=2:=by kernel_rfl
theorem cellsS15 : Tryd.prog.cellsOf 9=1:=by kernel_rfl
section
variable {H:Type} {enc:TypeId × Value→H} {w:World} {base:Nat} {spare:Nat→Bool} {held:Bool} {fuel:Nat} {x:DataW H × List MemPlace}
theorem trod_struct2j {P:Program} {t:TypeId} {f0 f1:Field} {cs:List Value} (ht:P.underlying t=some (.struct #[f0,f1])) (h:DataW.trod enc P w base spare held fuel t cs=some x) :
 ∃ y0 y1 n,DataW.trod enc P w base spare held n f0.type ((cs.drop f0.offset).take (P.cellsOf f0.type))=some y0∧DataW.trod enc P w base spare held n f1.type ((cs.drop f1.offset).take (P.cellsOf f1.type))=some y1:=by
 obtain ⟨xs,n,_,rfl,hl,hlen,hf⟩:=DataW.trod_struct ht h
 match xs,hlen with
 | [y0,y1],_=>exact ⟨y0,y1,n,by simpa using hf 0 f0 rfl,by simpa using hf 1 f1 rfl⟩
theorem trod_str15 {v:Value} (h:DataW.trod enc Tryd.prog w base spare held fuel 9 [v]=some x) : ∃ t:List Int,v = .string (strOfNums t)∧Byts t∧t.length≤maxLen:=by
 obtain ⟨s,h1,_,h2⟩:=DataW.trod_string Tryd.underlying9 h
 simp only [List.cons.injEq,and_true] at h1
 exact ⟨bs s,by rw [str_bs];exact h1,bs_byt s,by rw [bs_length];exact h2⟩
end
def pwCells (x:Int × List Int):List Value:=[.int .i64 x.1,.string (strOfNums x.2)]
def PwOk (x:Int × List Int):Prop:=(-9223372036854775808≤x.1∧x.1≤9223372036854775807)∧x.2.length≤9223372036854775807∧Byts x.2
section
variable {H:Type} {enc:TypeId × Value→H} {w:World} {base:Nat} {held:Bool}
theorem trod_pw15 {fuel:Nat} {cs:List Value} {x:DataW H × List MemPlace} (hl:cs.length=2) (h:DataW.trod enc Tryd.prog w base (fun _=>true) held fuel 93 cs=some x) :
 ∃ s:Int × List Int,cs=pwCells s∧PwOk s:=by
 obtain ⟨c0,c1,rfl⟩ : ∃ a b,cs=[a,b]:=by
  match cs,hl with
  | [a,b],_=>exact ⟨a,b,rfl⟩
 obtain ⟨y0,y1,n,h0,h1⟩:=trod_struct2j Tryd.underlying93 h
 have h0:DataW.trod enc Tryd.prog w base (fun _=>true) held n 3 [c0]=some y0:=by simpa [cellsI14] using h0
 have h1:DataW.trod enc Tryd.prog w base (fun _=>true) held n 9 [c1]=some y1:=by simpa [cellsS15] using h1
 obtain ⟨k,e0,w0⟩:=trod_int14 h0
 obtain ⟨t,e1,ht,hl1⟩:=trod_str15 h1
 subst e0 e1
 exact ⟨(k,t),rfl,bounds_i64 w0,by simp only [maxLen] at hl1;show t.length≤_;omega,ht⟩
set_option maxRecDepth 100000 in
theorem open_pws15 {r:Reach} {b0:Nat} {v:Value} {d:DataW H} {p:List MemPlace} (hv:Value.okWide Tryd.prog w r b0 51 v) (h:DataW.Trod enc Tryd.prog w base (fun _=>true) held 51 v d p) :
 ∃ ha hcp,∃ xs:List (Int × List Int),v = .slice ha xs.length hcp∧(SlP w ha xs ∧ ∀ x∈xs,PwOk x)∧xs.length≤9223372036854775807:=by
 obtain ⟨a,n,cap,rfl⟩:=okWide_slice Tryd.underlying51 hv
 obtain ⟨fuel,hf⟩:=h
 obtain ⟨ha,hcp,L,e,⟨h1,h2⟩,h3⟩:=open_rowsL pwCells PwOk Tryd.underlying51 cellsPw (by decide) (0,[]) (fun hl ht=>trod_pw15 hl ht) (by simpa [Value.cells] using hf)
 refine ⟨ha,hcp,L,e,⟨fun i s hs=>?_,fun s hs=>?_⟩,by simp only [maxLen] at h2;omega⟩
 · obtain ⟨b,off,e,hc,-⟩:=h3 i s hs
   exact ⟨b,off,e,hc 0 _ rfl,hc 1 _ rfl⟩
 · obtain ⟨i,hi⟩:=List.mem_iff_getElem?.1 hs
   exact (h3 i s hi).choose_spec.choose_spec.2.2
end
end
section
open Go.RowKit Go.Sort Go.Maps
theorem strCells_app (a b:ByteArray):Lib.strCells a++Lib.strCells b=Lib.strCells (a++b):=by
 unfold Lib.strCells
 rw [ByteArray.data_append,Array.toList_append,List.map_append]
set_option maxRecDepth 100000 in
set_option maxHeartbeats 2000000 in
theorem jstream_any (a:Option Addr) (c:Nat) (L:List (List Int)) (w:World) (hs:Slv w a (strs L)) (hL:L.length≤100000) (hr : ∀ r∈L,r.length≤60000) (ht:(strmP L).length≤1000000) :
 Calls Tryd.prog 32 #[.slice a L.length c] w fun e w'=>e = .returned (.string (strOfNums (strmP L)))∧Below w.heap.size w w':=by
 have HS:=Bx.mk hs
 have HR:=Bx.mk hr
 have HT:=Bx.mk ht
 obtain ⟨n,hn⟩ : ∃ n,n=L.length:=⟨_,rfl⟩
 rw [←hn] at hL ⊢
 have Hn:=Bx.mk hn
 clear hs hr ht hn
 go_enter Tryd.func32,Tryd.ntmps32
 go_upto_region 2 with fail
 generalize hW:World.alloc w _=W
 have HW:Bx (Below w.heap.size w W):=⟨by rw [←hW];exact (Below.refl _ _).alloc (Nat.le_refl _) _⟩
 have HB:Bx (Lib.IsBuilder 108 5 w.heap.size w.heap.size [] W):=⟨by
  rw [←hW]
  exact .inl ⟨Nat.le_refl _,.slice none 0 0,heap_alloc_new _ _,World.ownsRow_nil _ _ _ _,by simp [Value.ownBlock]⟩⟩
 clear hW
 obtain ⟨bb,hbb⟩ : ∃ bb,bb=w.heap.size:=⟨_,rfl⟩
 rw [←hbb] at HB ⊢
 have HBB:=Bx.mk hbb
 clear hbb
 go_upto_region 3 with fail
 go_loopw [8] (fun i wr => ∃ k:Nat,k≤n∧i = .int .i64 k∧Bx (Lib.IsBuilder 108 5 bb bb (Lib.strCells (strOfNums (strmP (L.take k)))) wr)∧Bx (Below bb w wr)) (fun i _=>n - (intOf i).toNat)
 case atStart=>exact ⟨0,Nat.zero_le _,rfl,⟨by simpa [strmP,Lib.strCells,strOfNums] using HB.out⟩,⟨by rw [HBB.out];exact HW.out⟩⟩
 case round =>
  clear HB HW
  obtain ⟨k,hk,rfl,HI,HB⟩:=hrel
  have HBS:Bx (bb≤wr.heap.size):=⟨by have:=HB.out.size;have:=HBB.out;omega⟩
  by_cases hlt:k<n
  · have t0:decide ((k:Int)<(n:Int))=true:=by simp;omega
    obtain ⟨r,hr⟩ : ∃ r,L[k]? = some r:=⟨_,List.getElem?_eq_getElem (by rw [←Hn.out];exact hlt)⟩
    obtain ⟨b,off,rfl,hc⟩:=HS.out k _ (strs_at hr)
    have c0:=cell_later (by rw [HBB.out] at HB;exact HB.out) hc
    have hlen:=HR.out r (List.mem_of_getElem? hr)
    have hsz:(strOfNums r).size=r.length:=strOfNums_size r
    have hby:=Bx.mk fun W=>jbytes_any r.length 2 (by decide) W
    have z1:(strOfNums (bytesP r.length 2)).size=2:=by rw [strOfNums_size,bytes_len]
    have ha:strOfNums (bytesP r.length 2)++strOfNums r=strOfNums (recS r):=str_append _ _
    have hN:Bx (Lib.strCells (strOfNums (strmP (L.take k)))++Lib.strCells (strOfNums (recS r))=Lib.strCells (strOfNums (strmP (L.take (k+1))))):=⟨by
     obtain ⟨h1,h2⟩:=List.getElem?_eq_some_iff.1 hr
     rw [List.take_succ_eq_append_getElem h1,h2,strmP_snoc,strCells_app,str_append]⟩
    have hsz2:(Lib.strCells (strOfNums (strmP (L.take k)))).length+(strOfNums (recS r)).size≤140737488355328:=by
     have h1:=strmP_take_le L k
     have h2:=HT.out
     rw [Lib.strCells_length,strOfNums_size,strOfNums_size,recS_len]
     omega
    have hws:=Bx.mk fun W (hi:Lib.IsBuilder 108 5 bb bb (Lib.strCells (strOfNums (strmP (L.take k)))) W) (hb:bb≤W.heap.size)=>jb_write bb bb _ (strOfNums (recS r)) W hi hsz2 hb
    have hmov:Bx (∀ W,Below wr.heap.size wr W→Lib.IsBuilder 108 5 bb bb (Lib.strCells (strOfNums (strmP (L.take k)))) W):=⟨fun W hb=>by
     rcases HI.out with h | h
     · exact .inl (jb_later h hb)
     · exact .inr (jb_later h hb)⟩
    generalize r.length=rl at *
    generalize strOfNums (bytesP rl 2)=S2 at *
    generalize strOfNums (recS r)=S3 at *
    generalize strOfNums r=S1 at *
    have Hlt:=Bx.mk hlt
    have b1:(0:Int)≤(k:Int):=by omega
    have b2:(k:Int)<(n:Int):=by omega
    clear hc hr hsz2 HI hlt
    go_wp2_with fail
    refine (hby.out _).mono ?_
    rintro _ w2 ⟨rfl,hb2⟩
    have hI2:=hmov.out w2 hb2
    have hB2:Below bb w w2:=HB.out.trans (hb2.mono HBS.out)
    have hw2:=Bx.mk (hws.out w2 hI2 (Nat.le_trans HBS.out hb2.size))
    have HB2:=Bx.mk hB2
    clear hb2 hI2 hB2 hby hmov hws HB c0
    go_wp2_with fail
    refine hw2.out.mono ?_
    rintro _ w3 ⟨rfl,hI3,hb3⟩
    rw [hN.out] at hI3
    have HI3:=Bx.mk hI3
    have HB3:=Bx.mk (HB2.out.trans hb3)
    clear hI3 hb3 hw2 HB2
    go_wp2_with fail
    go_roundw
    case rel=>exact ⟨k+1,by have:=Hlt.out;omega,by go_num,HI3,HB3⟩
    case measure=>have:=Hlt.out;simp [intOf];omega
  · obtain rfl:k=n:=by omega
    have t0:decide ((k:Int)<(k:Int))=false:=by simp
    have hst:=Tryd.Builder_String_any bb bb _ wr (show Lib.IsBuilder 108 5 bb bb (Lib.byteCells _) wr from HI.out) HBS.out
    rw [List.take_of_length_le (by rw [←Hn.out];exact Nat.le_refl _)] at hst
    have HST:=Bx.mk hst
    clear hst HI t0
    go_wp2_with fail
    refine HST.out.mono ?_
    rintro _ w4 ⟨rfl,hb4⟩
    have HB4:=Bx.mk (HB.out.trans hb4)
    clear hb4 HST
    go_wp2_with fail
    go_ret
    exact ⟨rfl,by rw [←HBB.out];exact HB4.out⟩
end
section
open Go.RowKit Go.Sort Go.Maps
def longR (L:List (List Int)):Bool:=L.any fun r=>decide (8000<r.length)
set_option maxRecDepth 100000 in
set_option maxHeartbeats 1000000 in
theorem jcheck1_any (r:List Int) (w:World) :
 Calls Tryd.prog 59 #[.string (strOfNums r)] w fun e w'=>e = .returned (.bool (decide (8000<r.length)))∧w'=w:=by
 have hsz:(strOfNums r).size=r.length:=strOfNums_size r
 generalize strOfNums r=S at *
 generalize r.length=n at *
 by_cases h:8000<n
 · have t0:decide ((n:Int) > 8000)=true:=by simp;omega
   have t1:decide ((8000:Int)<(n:Int))=true:=by simp;omega
   rw [decide_eq_true h]
   clear h
   go_enter Tryd.func59,Tryd.ntmps59
   go_wp2_with fail
   go_ret
   exact ⟨rfl,rfl⟩
 · have t0:decide ((n:Int) > 8000)=false:=by simp;omega
   have t1:decide ((8000:Int)<(n:Int))=false:=by simp;omega
   rw [decide_eq_false h]
   clear h
   go_enter Tryd.func59,Tryd.ntmps59
   go_wp2_with fail
   go_ret
   exact ⟨rfl,rfl⟩
set_option maxRecDepth 100000 in
set_option maxHeartbeats 1000000 in
theorem jindex_any (a:Option Addr) (c:Nat) (L:List (List Int)) (w:World) (hs:Slv w a (strs L)) (hL:L.length≤100000) :
 Calls Tryd.prog 81 #[.slice a L.length c,.func (.func 59) #[] #[]] w fun e w'=>(∃ k:Int,e = .returned (.int .i64 k)∧(0≤k ↔ longR L=true))∧w'=w:=by
 have HS:=Bx.mk hs
 obtain ⟨n,hn⟩ : ∃ n,n=L.length:=⟨_,rfl⟩
 rw [←hn] at hL ⊢
 have Hn:=Bx.mk hn
 have HE:Bx (∀ args W,(callFunc 59 args).run Tryd.prog W = .ok (.enter 59 args) W):=⟨enters_of Tryd.func59 (by kernel_rfl) rfl⟩
 clear hs hn
 go_enter Tryd.func81,Tryd.ntmps81
 go_upto_region 2 with fail
 go_loopw [8] (fun i wr => ∃ k:Nat,k≤n∧i = .int .i64 k∧wr=w∧Bx (longR (L.take k)=false)) (fun i _=>n - (intOf i).toNat)
 case atStart=>exact ⟨0,Nat.zero_le _,rfl,rfl,⟨rfl⟩⟩
 case round =>
  obtain ⟨k,hk,rfl,rfl,HF⟩:=hrel
  by_cases hlt:k<n
  · have t0:decide ((k:Int)<(n:Int))=true:=by simp;omega
    obtain ⟨r,hr⟩ : ∃ r,L[k]? = some r:=⟨_,List.getElem?_eq_getElem (by rw [←Hn.out];exact hlt)⟩
    obtain ⟨b,off,rfl,hc⟩:=HS.out k _ (strs_at hr)
    have hck:=Bx.mk fun W=>jcheck1_any r W
    have hT:Bx (longR (L.take (k+1))=decide (8000<r.length)):=⟨by
     obtain ⟨h1,h2⟩:=List.getElem?_eq_some_iff.1 hr
     have h3:=HF.out
     unfold longR at h3 ⊢
     rw [List.take_succ_eq_append_getElem h1,h2,List.any_append,h3]
     simp⟩
    have hM:=Bx.mk (List.mem_of_getElem? hr)
    generalize hq:decide (8000<r.length)=q at *
    have Hq:=Bx.mk hq
    have Hlt:=Bx.mk hlt
    have b1:(0:Int)≤(k:Int):=by omega
    have b2:(k:Int)<(n:Int):=by omega
    generalize strOfNums r=S at *
    clear hr hlt hq
    go_wp2_with fail
    first | rw [HE.out _ _] | skip
    refine (hck.out _).mono ?_
    rintro _ _ ⟨rfl,rfl⟩
    clear hck hc
    cases q with
    | true =>
      go_wp2_with fail
      go_ret
      exact ⟨⟨_,rfl,⟨fun _=>List.any_eq_true.2 ⟨r,hM.out,Hq.out⟩,fun _=>by omega⟩⟩,by first | rfl | trivial⟩
    | false =>
      go_wp2_with fail
      go_roundw
      case rel=>exact ⟨k+1,by have:=Hlt.out;omega,by go_num,by first | rfl | trivial,hT⟩
      case measure=>have:=Hlt.out;simp [intOf];omega
  · obtain rfl:k=n:=by omega
    have t0:decide ((k:Int)<(k:Int))=false:=by simp
    have hF:longR L=false:=by
     have:=HF.out
     rwa [List.take_of_length_le (by rw [←Hn.out];exact Nat.le_refl _)] at this
    have HF2:=Bx.mk hF
    clear hF
    go_wp2_with fail
    go_ret
    exact ⟨⟨_,rfl,⟨fun h=>absurd h (by decide),fun h=>by rw [HF2.out] at h;cases h⟩⟩,by first | rfl | trivial⟩
set_option maxRecDepth 100000 in
set_option maxHeartbeats 1000000 in
theorem jcontains_any (a:Option Addr) (c:Nat) (L:List (List Int)) (w:World) (hs:Slv w a (strs L)) (hL:L.length≤100000) :
 Calls Tryd.prog 58 #[.slice a L.length c,.func (.func 59) #[] #[]] w fun e w'=>e = .returned (.bool (longR L))∧w'=w:=by
 have hix:=Bx.mk (jindex_any a c L w hs hL)
 generalize longR L=q at *
 generalize L.length=n at *
 clear hs
 go_enter Tryd.func58,Tryd.ntmps58
 go_wp2_with fail
 refine hix.out.mono ?_
 rintro _ _ ⟨⟨k,rfl,hk⟩,rfl⟩
 have HK:Bx (decide (k ≥ 0)=q):=⟨by
  cases q with
  | true=>exact decide_eq_true (hk.2 rfl)
  | false=>exact decide_eq_false fun h=>by have:=hk.1 h;cases this⟩
 have t0:=HK.out
 clear hk hix
 go_wp2_with fail
 go_ret
 exact ⟨rfl,rfl⟩
def jchkV (cl:Bool) (h:Nat) (s:List Int) (L:List (List Int)):Int:=if cl=true then 20 else if longR L=true then 2 else if h * 116<s.length then 21 else 0
set_option maxRecDepth 100000 in
set_option maxHeartbeats 1000000 in
theorem jcheck_any (w:World) (jp pp h bank:Nat) (s0:List Int) (rv:Value) (cl:Bool) (hj:JS w jp pp h bank s0 rv cl) (hh:h≤1000) (s:List Int) (a:Option Addr) (c:Nat) (L:List (List Int)) (hs:Slv w a (strs L)) (hL:L.length≤100000) (hsl:s.length≤1000000) :
 Calls Tryd.prog 33 #[.pointer (some ⟨jp,0,none⟩),.string (strOfNums s),.slice a L.length c] w fun e w'=>e = .returned (.int .i64 (jchkV cl h s L))∧w'=w:=by
 have c5:=Bk.cell hj 5 rfl
 have hct:=Bx.mk (jcontains_any a c L w hs hL)
 have hsz:=Bx.mk (jsize_any w jp pp h bank s0 rv cl hj hh)
 have hln:(strOfNums s).size=s.length:=strOfNums_size s
 unfold jchkV
 generalize strOfNums s=S at *
 generalize s.length=m at *
 generalize longR L=q at *
 generalize L.length=n at *
 clear hj hs
 cases cl with
 | true =>
   rw [if_pos rfl]
   go_enter Tryd.func33,Tryd.ntmps33
   go_wp2_with fail
   go_ret
   exact ⟨rfl,rfl⟩
 | false =>
   rw [if_neg (by decide)]
   cases q with
   | true =>
     rw [if_pos rfl]
     go_enter Tryd.func33,Tryd.ntmps33
     go_wp2_with fail
     refine hct.out.mono ?_
     rintro _ _ ⟨rfl,rfl⟩
     go_wp2_with fail
     go_ret
     exact ⟨rfl,rfl⟩
   | false =>
     rw [if_neg (by decide)]
     by_cases hb:h * 116<m
     · have t0:decide ((m:Int) > ((h * 116:Nat):Int))=true:=by simp;omega
       have t1:decide (((h * 116:Nat):Int)<(m:Int))=true:=by simp;omega
       have t2:decide (h * 116<m)=true:=by simpa using hb
       rw [if_pos hb]
       generalize h * 116=h6 at *
       clear hb
       go_enter Tryd.func33,Tryd.ntmps33
       go_wp2_with fail
       refine hct.out.mono ?_
       rintro _ _ ⟨rfl,rfl⟩
       go_wp2_with fail
       refine hsz.out.mono ?_
       rintro _ _ ⟨rfl,rfl⟩
       go_wp2_with fail
       go_ret
       exact ⟨rfl,rfl⟩
     · have t0:decide ((m:Int) > ((h * 116:Nat):Int))=false:=by simp;omega
       have t1:decide (((h * 116:Nat):Int)<(m:Int))=false:=by simp;omega
       have t2:decide (h * 116<m)=false:=by simpa using hb
       rw [if_neg hb]
       generalize h * 116=h6 at *
       clear hb
       go_enter Tryd.func33,Tryd.ntmps33
       go_wp2_with fail
       refine hct.out.mono ?_
       rintro _ _ ⟨rfl,rfl⟩
       go_wp2_with fail
       refine hsz.out.mono ?_
       rintro _ _ ⟨rfl,rfl⟩
       go_wp2_with fail
       go_ret
       exact ⟨rfl,rfl⟩
end
section
open Go.RowKit Go.Sort Go.Maps
def CutB (w:World) (cp:Nat) (l:List Int):Prop:=Bk w cp #[.string (strOfNums l)] 101
set_option maxRecDepth 100000 in
set_option maxHeartbeats 2000000 in
theorem jnext_no (w:World) (cp:Nat) (l:List Int) (hb:Byts l) (hl:l.length≤1000000) (hc:CutB w cp l) (hn:nextS l=none) :
 Calls Tryd.prog 53 #[.pointer (some ⟨cp,0,none⟩)] w fun e w'=>e = .returned (.tuple #[.string ⟨#[]⟩,.bool false])∧w'=w:=by
 have c0:=Bk.cell hc 0 rfl
 have hsz:(strOfNums l).size=l.length:=strOfNums_size l
 unfold nextS at hn
 by_cases h2:l.length<2
 · have t0:decide ((l.length:Int)<2)=true:=by simp;omega
   have t0b:decide (l.length<2)=true:=by simpa using h2
   clear hn hc hb
   generalize l.length=n at *
   generalize strOfNums l=S at *
   go_enter Tryd.func53,Tryd.ntmps53
   go_wp2_with fail
   go_ret2
   exact ⟨rfl,rfl⟩
 · rw [if_neg h2] at hn
   have t0:decide ((l.length:Int)<2)=false:=by simp;omega
   have t0b:decide (l.length<2)=false:=by simpa using h2
   have hex:(strOfNums l).extract 0 2=strOfNums (l.take 2):=by rw [str_extract];rfl
   have hnm:=Bx.mk fun W=>jnumber_any (l.take 2) (fun x hx=>hb x (List.mem_of_mem_take hx)) (by rw [List.length_take];omega) W
   have hm64:=numK_lt (l:=l.take 2) (fun x hx=>hb x (List.mem_of_mem_take hx))
   have hm65:numK (l.take 2)<65536:=by rw [List.length_take,show min 2 l.length=2 by omega] at hm64;exact hm64
   have h3:8000<numK (l.take 2)∨l.length<2+numK (l.take 2):=by
    apply Classical.byContradiction
    intro h
    rw [if_neg h] at hn
    cases hn
   have b2:(2:Int)≤(l.length:Int):=by omega
   clear hn hc hb hm64
   generalize l.length=n at *
   generalize numK (l.take 2)=m at *
   generalize strOfNums (l.take 2)=S2 at *
   generalize strOfNums l=S at *
   have e1:IntKind.i64.wrap (2+(m:Int))=((2+m:Nat):Int):=by rw [IntWalk.i64_in _ (by omega)];omega
   by_cases h8:8000<m
   · have t1:decide ((m:Int) > 8000)=true:=by simp;omega
     have t1b:decide (8000<m)=true:=by simpa using h8
     clear h3 h8 h2
     go_enter Tryd.func53,Tryd.ntmps53
     go_wp2_with fail
     refine (hnm.out _).mono ?_
     rintro _ _ ⟨rfl,rfl⟩
     go_wp2_with fail
     go_ret2
     exact ⟨rfl,rfl⟩
   · have t1:decide ((m:Int) > 8000)=false:=by simp;omega
     have t1b:decide (8000<m)=false:=by simpa using h8
     have hlt:n<2+m:=by omega
     have t2:decide ((n:Int)<((2+m:Nat):Int))=true:=by simp;omega
     have t2b:decide (n<2+m)=true:=by simpa using hlt
     generalize 2+m=m2 at *
     clear h3 h8 h2 hlt
     go_enter Tryd.func53,Tryd.ntmps53
     go_wp2_with fail
     refine (hnm.out _).mono ?_
     rintro _ _ ⟨rfl,rfl⟩
     go_wp2_with fail
     go_ret2
     exact ⟨rfl,rfl⟩
set_option maxRecDepth 100000 in
set_option maxHeartbeats 2000000 in
theorem jnext_yes (w:World) (cp:Nat) (l r rest:List Int) (hb:Byts l) (hl:l.length≤1000000) (hc:CutB w cp l) (hn:nextS l=some (r,rest)) :
 Calls Tryd.prog 53 #[.pointer (some ⟨cp,0,none⟩)] w fun e w'=>e = .returned (.tuple #[.string (strOfNums r),.bool true])∧w'=w.setCell ⟨cp,0,none⟩ (.string (strOfNums rest)):=by
 have c0:=Bk.cell hc 0 rfl
 have f0:=Bk.frozen hc 0
 have hsz:(strOfNums l).size=l.length:=strOfNums_size l
 unfold nextS at hn
 by_cases h2:l.length<2
 · rw [if_pos h2] at hn;cases hn
 rw [if_neg h2] at hn
 by_cases h3:8000<numK (l.take 2)∨l.length<2+numK (l.take 2)
 · rw [if_pos h3] at hn;cases hn
 rw [if_neg h3] at hn
 simp only [Option.some.injEq,Prod.mk.injEq] at hn
 obtain ⟨rfl,rfl⟩:=hn
 have t0:decide ((l.length:Int)<2)=false:=by simp;omega
 have t0b:decide (l.length<2)=false:=by simpa using h2
 have hex:(strOfNums l).extract 0 2=strOfNums (l.take 2):=by rw [str_extract];rfl
 have hnm:=Bx.mk fun W=>jnumber_any (l.take 2) (fun x hx=>hb x (List.mem_of_mem_take hx)) (by rw [List.length_take];omega) W
 obtain ⟨m,hm⟩ : ∃ m,m=numK (l.take 2):=⟨_,rfl⟩
 rw [←hm] at h3 hnm ⊢
 have hex2:(strOfNums l).extract 2 (2+m)=strOfNums ((l.drop 2).take m):=by rw [str_extract];congr 2;omega
 have hex3:(strOfNums l).extract (2+m) l.length=strOfNums (l.drop (2+m)):=by rw [str_extract,List.take_of_length_le (by rw [List.length_drop];omega)]
 have e1:IntKind.i64.wrap (2+(m:Int))=((2+m:Nat):Int):=by rw [IntWalk.i64_in _ (by omega)];omega
 have t1:decide ((m:Int) > 8000)=false:=by simp;omega
 have t1b:decide (8000<m)=false:=by simp;omega
 have t2:decide ((l.length:Int)<((2+m:Nat):Int))=false:=by simp;omega
 have t2b:decide (l.length<2+m)=false:=by simp;omega
 have b2:(2:Int)≤(l.length:Int):=by omega
 have b3:(2:Int)≤((2+m:Nat):Int):=by omega
 have b4:((2+m:Nat):Int)≤(l.length:Int):=by omega
 have b5:(0:Int)≤((2+m:Nat):Int):=by omega
 clear hc hb hm
 generalize strOfNums (l.take 2)=S2 at *
 generalize strOfNums ((l.drop 2).take m)=S3 at *
 generalize strOfNums (l.drop (2+m))=S4 at *
 generalize strOfNums l=S at *
 generalize l.length=n at *
 generalize 2+m=m2 at *
 clear h2 h3
 go_enter Tryd.func53,Tryd.ntmps53
 go_wp2_with fail
 refine (hnm.out _).mono ?_
 rintro _ _ ⟨rfl,rfl⟩
 go_wp2_with fail
 go_ret2
 exact ⟨rfl,rfl⟩
end
section
open Go.RowKit Go.Sort Go.Maps
section
variable {n:Nat} {rd:Nat→List Int × Int}
theorem openJ_small (h:(n - 1) / 2<1):openJ n rd = .error 1:=by unfold openJ;rw [if_pos h]
theorem openJ_read (h : ¬(n - 1) / 2<1) (h0:(rd 0).2 ≠ 0):openJ n rd = .error (rd 0).2:=by unfold openJ;rw [if_neg h,if_pos h0]
theorem openJ_bad (h : ¬(n - 1) / 2<1) (h0:(rd 0).2=0) (hb:headBad ((n - 1) / 2) (rd 0).1):openJ n rd = .error 7:=by unfold openJ;rw [if_neg h,if_neg (by simp [h0]),if_pos hb]
theorem openJ_gat (h : ¬(n - 1) / 2<1) (h0:(rd 0).2=0) (hb : ¬headBad ((n - 1) / 2) (rd 0).1) {e:Int} (hg:gatJ rd (1+hBank (rd 0).1 * ((n - 1) / 2)) (pagesFor (hUsed (rd 0).1)) = .error e):openJ n rd = .error e:=by
 unfold openJ;rw [if_neg h,if_neg (by simp [h0]),if_neg hb,hg]
theorem openJ_cut (h : ¬(n - 1) / 2<1) (h0:(rd 0).2=0) (hb : ¬headBad ((n - 1) / 2) (rd 0).1) {s:List Int} (hg:gatJ rd (1+hBank (rd 0).1 * ((n - 1) / 2)) (pagesFor (hUsed (rd 0).1)) = .ok s) (hc:cutS (s.take (hUsed (rd 0).1))=none):openJ n rd = .error 7:=by
 unfold openJ;rw [if_neg h,if_neg (by simp [h0]),if_neg hb,hg];dsimp only;rw [hc]
theorem openJ_cnt (h : ¬(n - 1) / 2<1) (h0:(rd 0).2=0) (hb : ¬headBad ((n - 1) / 2) (rd 0).1) {s:List Int} (hg:gatJ rd (1+hBank (rd 0).1 * ((n - 1) / 2)) (pagesFor (hUsed (rd 0).1)) = .ok s) {L:List (List Int)} (hc:cutS (s.take (hUsed (rd 0).1))=some L) (hl:L.length ≠ hCnt (rd 0).1):openJ n rd = .error 7:=by
 unfold openJ;rw [if_neg h,if_neg (by simp [h0]),if_neg hb,hg];dsimp only;rw [hc];dsimp only;rw [if_pos hl]
theorem openJ_ok (h : ¬(n - 1) / 2<1) (h0:(rd 0).2=0) (hb : ¬headBad ((n - 1) / 2) (rd 0).1) {s:List Int} (hg:gatJ rd (1+hBank (rd 0).1 * ((n - 1) / 2)) (pagesFor (hUsed (rd 0).1)) = .ok s) {L:List (List Int)} (hc:cutS (s.take (hUsed (rd 0).1))=some L) (hl:L.length=hCnt (rd 0).1):openJ n rd = .ok (hBank (rd 0).1,s.take (hUsed (rd 0).1),L):=by
 unfold openJ;rw [if_neg h,if_neg (by simp [h0]),if_neg hb,hg];dsimp only;rw [hc];dsimp only;rw [if_neg (by simp [hl])]
theorem gatJ_err {base k K:Nat} {e:Int} (h:gatJ rd base k = .error e) (hk:k≤K):gatJ rd base K = .error e:=by
 induction K with
 | zero => obtain rfl : k = 0 := by omega
           exact h
 | succ K ih =>
   by_cases hkK:k=K+1
   · rw [←hkK];exact h
   · have:=ih (by omega)
     simp only [gatJ,this]
theorem gatJ_fail {base k:Nat} {s:List Int} (h:gatJ rd base k = .ok s) (he:(rd (base+k)).2 ≠ 0):gatJ rd base (k+1) = .error (rd (base+k)).2:=by
 simp only [gatJ,h];rw [if_pos he]
theorem gatJ_more {base k:Nat} {s:List Int} (h:gatJ rd base k = .ok s) (he:(rd (base+k)).2=0):gatJ rd base (k+1) = .ok (s++(rd (base+k)).1):=by
 simp only [gatJ,h];rw [if_neg (by simp [he])]
end
theorem dropWhile_all {l:List UInt8} {c:UInt8}:l.dropWhile (· == c)=[] ↔ ∀ x∈l,x=c:=by
 induction l with
 | nil=>simp
 | cons a l ih =>
   rw [List.dropWhile_cons]
   by_cases h:a=c
   · simp [h,ih]
   · simp [h]
theorem trim_all {l:List UInt8} {c:UInt8}:Lib.trimB l c=[] ↔ ∀ x∈l,x=c:=by
 unfold Lib.trimB Lib.trimLeftB Lib.trimRightB
 constructor
 · intro h
   rw [dropWhile_all] at h
   have h2:l.reverse.dropWhile (· == c)=[]:=by
    cases hd:l.reverse.dropWhile (· == c) with
    | nil=>rfl
    | cons a r =>
      have h3:=h a (by rw [hd];simp)
      have h4:=List.head?_dropWhile_not (p:=(· == c)) (l:=l.reverse)
      rw [hd] at h4
      simp [h3] at h4
   rw [dropWhile_all] at h2
   exact fun x hx=>h2 x (by simpa using hx)
 · intro h
   have h2:l.reverse.dropWhile (· == c)=[]:=dropWhile_all.2 fun x hx=>h x (by simpa using hx)
   rw [h2];rfl
theorem jtrim_any (l:List Int) (hb:Byts l) (hl:l.length≤100000) : ∃ T:ByteArray,(∀ w,Calls Tryd.prog 51 #[.string (strOfNums l),.string ⟨#[0]⟩] w fun e w'=>e = .returned (.string T)∧Below w.heap.size w w')∧(T.toList.isEmpty=true ↔ ∀ x∈l,x=0):=by
 refine ⟨⟨(Lib.trimB (strOfNums l).data.toList 0).toArray⟩,fun w=>?_,?_⟩
 · refine (Tryd.strings_Trim_one (strOfNums l) 0 (by decide) w (by rw [strOfNums_size];omega)).mono fun e w' h=>⟨h.1,?_⟩
   rcases h.2 with h | h
   · rw [h];exact Below.refl _ _
   · rw [h];exact ⟨rfl,rfl,rfl,Nat.le_refl _,fun _ _=>rfl⟩
 · rw [ByteArray.toList_eq,List.isEmpty_iff,trim_all,strOfNums_data]
   constructor
   · intro h x hx
     have h1:=h _ (List.mem_map.2 ⟨x,hx,rfl⟩)
     have h2:=hb x hx
     have h3:=congrArg UInt8.toNat h1
     simp at h3
     omega
   · intro h y hy
     obtain ⟨x,hx,rfl⟩:=List.mem_map.1 hy
     rw [h x hx];rfl
def JOpen (w:World) (pp h:Nat) (r:Except Int (Nat × List Int × List (List Int))) (e:Ending) (w':World):Prop :=
 Below w.heap.size w w'∧match r with
  | .error er=>er ≠ 0∧e = .returned (.tuple #[.pointer none,.int .i64 er])
  | .ok (bank,s,L) => ∃ jb rv,e = .returned (.tuple #[.pointer (some ⟨jb,0,none⟩),.int .i64 0])∧JS w' jb pp h bank s rv false∧Ownv w' w.heap.size 9 rv (strs L)∧w.heap.size≤jb
end
end Go.Proofs.YtajhkncolbgkbaaDoor
