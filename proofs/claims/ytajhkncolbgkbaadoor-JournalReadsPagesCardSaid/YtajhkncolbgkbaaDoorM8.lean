/- Pck, Pup, Pst, RelG, RlT: joined by program, for one claim. -/
import Derived.Test.YtajhkncolbgkbaaDoorMr
import Derived.Test.YtajhkncolbgkbaaDoorM7
import Derived.Test.YtajhkncolbgkbaaDoorM1
import Derived.Test.YtajhkncolbgkbaaDoorM6
import Derived.Test.YtajhkncolbgkbaaDoorM2
set_option linter.unusedVariables false
set_option linter.unusedSimpArgs false
namespace Go.Proofs.YtajhkncolbgkbaaDoor
section
open Go.RowKit Go.Sort Go.Maps
def SlP (w:World) (a:Option Addr) (l:List (Int × List Int)):Prop := ∀ i x,l[i]? = some x → ∃ b off,a=some ⟨b,off,none⟩∧w.cell? ⟨b,off+i * 2,none⟩=some (.int .i64 x.1)∧w.cell? ⟨b,off+i * 2+1,none⟩=some (.string (strOfNums x.2))
theorem SlP.below {w w':World} {a:Option Addr} {l:List (Int × List Int)} (h:SlP w a l) (hb:Below w.heap.size w w'):SlP w' a l:=fun i x hx=>by
 obtain ⟨b,off,e,h1,h2⟩:=h i x hx
 exact ⟨b,off,e,cell_later hb h1,cell_later hb h2⟩
def okTo (m:Int) (l:List (Int × List Int)) (k:Nat):Prop := ∀ i x,i<k→l[i]? = some x→0≤x.1∧x.1<m∧x.2.length=116∧(0<i → ∀ y,l[i - 1]? = some y→y.1<x.1)
open Classical in
noncomputable def okV (m:Int) (l:List (Int × List Int)):Int:=if okTo m l l.length then 0 else 1
theorem okV_yes {m:Int} {l:List (Int × List Int)} (h:okTo m l l.length):okV m l=0:=by unfold okV;rw [if_pos h]
theorem okV_no {m:Int} {l:List (Int × List Int)} (h : ¬okTo m l l.length):okV m l=1:=by unfold okV;rw [if_neg h]
noncomputable def chkV (cl:Bool) (N:Nat) (m:Int) (l:List (Int × List Int)):Int :=
 if cl=true then 20 else if 16<l.length∨1073741824≤N then 2 else if l.length=0 then 1 else okV m l
theorem okTo.zero (m:Int) (l:List (Int × List Int)):okTo m l 0:=fun i x hi=>by omega
theorem okTo.succ {m:Int} {l:List (Int × List Int)} {k:Nat} (h:okTo m l k) {x:Int × List Int} (hx:l[k]? = some x) (h1:0≤x.1∧x.1<m∧x.2.length=116∧(0<k → ∀ y,l[k - 1]? = some y→y.1<x.1)):okTo m l (k+1):=fun i y hi hy=>by
 by_cases e:i=k
 · subst e;rw [hx] at hy;obtain rfl:=Option.some.inj hy;exact h1
 · exact h i y (by omega) hy
set_option maxRecDepth 100000 in
set_option maxHeartbeats 4000000 in
theorem pcheck_any (w:World) (pp dp N g mb cap m:Nat) (bv:Value) (cl:Bool) (d:Dk) (hp:PS w pp dp N bv cl) (h:DkIs w dp g mb cap m d) (a:Option Addr) (c:Nat) (l:List (Int × List Int)) (hl:l.length≤1000) (hs:SlP w a l) (hw64 : ∀ x∈l,(-9223372036854775808≤x.1∧x.1≤9223372036854775807)∧x.2.length≤10000) :
 Calls Tryd.prog 45 #[.pointer (some ⟨pp,0,none⟩),.slice a l.length c] w fun e w'=>e = .returned (.int .i64 (chkV cl N ((d.p.length:Int) - 17) l))∧Below w.heap.size w w':=by
 have c1:=hp.cell 1 rfl
 have c3:=hp.cell 3 rfl
 have hlen:=Bx.mk fun W (hb:Below w.heap.size w W)=>((plen_any W pp dp N g mb cap m bv cl d (hp.later hb) (h.later hb)).mono fun e w' h=>(⟨h.1,h.2 ▸ Below.refl _ _⟩:e = .returned (.int .i64 ((d.p.length:Int) - 17))∧Below W.heap.size W w'))
 clear hp h
 generalize (d.p.length:Int) - 17=md at *
 unfold chkV
 cases cl with
 | true =>
   rw [if_pos rfl]
   go_enter Tryd.func45,Tryd.ntmps45
   go_wp2_with fail
   go_ret
   exact ⟨rfl,Below.refl _ _⟩
 | false =>
   rw [if_neg (by decide)]
   obtain ⟨n,hn⟩ : ∃ n,n=l.length:=⟨_,rfl⟩
   have Hn:=Bx.mk hn
   rw [←hn] at hl ⊢
   by_cases h1:16<n
   · have t1:decide ((n:Int) > 16)=true:=by simp;omega
     have t1b:decide (16<n)=true:=by simpa using h1
     rw [if_pos (.inl h1)]
     clear hs hn
     go_enter Tryd.func45,Tryd.ntmps45
     go_wp2_with fail
     go_ret
     exact ⟨rfl,Below.refl _ _⟩
   · have t1:decide ((n:Int) > 16)=false:=by simp;omega
     have t1b:decide (16<n)=false:=by simp;omega
     by_cases h2:1073741824≤N
     · have t2:decide ((N:Int) ≥ 1073741824)=true:=by simp;omega
       have t2b:decide (1073741824≤N)=true:=by simpa using h2
       rw [if_pos (.inr h2)]
       clear hs hn
       go_enter Tryd.func45,Tryd.ntmps45
       go_wp2_with fail
       go_ret
       exact ⟨rfl,Below.refl _ _⟩
     · have t2:decide ((N:Int) ≥ 1073741824)=false:=by simp;omega
       have t2b:decide (1073741824≤N)=false:=by simp;omega
       rw [if_neg (by omega)]
       by_cases h3:n=0
       · have t3:((n:Int) == 0)=true:=by simp [h3]
         rw [if_pos h3]
         clear hs hn
         go_enter Tryd.func45,Tryd.ntmps45
         go_wp2_with fail
         go_ret
         exact ⟨rfl,Below.refl _ _⟩
       · have t3:((n:Int) == 0)=false:=by simp;omega
         have t3b : ¬(n:Int)=0:=by omega
         rw [if_neg h3]
         have HSl:=Bx.mk hs
         have H64:=Bx.mk hw64
         have HR0:Bx (okTo md l n→okV md l=0):=⟨fun h=>okV_yes (by rw [←Hn.out];exact h)⟩
         have HR1:Bx (¬okTo md l n→okV md l=1):=⟨fun h=>okV_no (by rw [←Hn.out];exact h)⟩
         clear hs hn hw64 h1 h2 h3
         go_enter Tryd.func45,Tryd.ntmps45
         go_wp2_with fail
         clear c1 c3 t1 t1b t2 t2b t3 t3b
         go_loopw [29] (fun v29 wr => ∃ k:Nat,k≤n∧v29 = .int .i64 k∧Bx (okTo md l k)∧Bx (Below w.heap.size w wr)) (fun i _=>n - (intOf i).toNat)
         case atStart=>exact ⟨0,Nat.zero_le _,rfl,⟨okTo.zero _ _⟩,⟨Below.refl _ _⟩⟩
         case round =>
          obtain ⟨k,hk,rfl,HO,HW⟩:=hrel
          by_cases hlt:k<n
          · have t0:decide ((k:Int)<(n:Int))=true:=by simp;omega
            obtain ⟨x,hx⟩ : ∃ x,l[k]? = some x:=⟨_,List.getElem?_eq_getElem (by rw [←Hn.out];exact hlt)⟩
            obtain ⟨b,off,rfl,hc1,hc2⟩:=HSl.out k x hx
            have z0:=cell_later HW.out hc1
            have z1:=cell_later HW.out hc2
            have h64:=H64.out x (List.mem_of_getElem? hx)
            have HX:=Bx.mk hx
            have b1:(0:Int)≤(k:Int):=by omega
            have b2:(k:Int)<(n:Int):=by omega
            have Hlt:=Bx.mk hlt
            obtain ⟨xp,xt⟩:=x
            simp only at z0 z1 h64
            clear hx hc1 hc2 hlt
            go_upto_region 10 with fail
            clear z0 z1 t0
            generalize hW:World.alloc wr _=W
            have hbW:=bl1 hW
            have KX:Bk W wr.heap.size #[.int .i64 xp,.string (strOfNums xt)] 93:=bk0 hW rfl
            clear hW
            have HBW:=Bx.mk (HW.out.trans (hbW.mono HW.out.size))
            have q0:=Bx.mk fun dk osk=>Calls.regrown_of (hlen.out (grow (redrawn W dk) osk) (HBW.out.trans ((below_regrown W dk osk).mono HBW.out.size)))
            obtain ⟨x0,x1⟩:=KX.r2
            obtain ⟨sz,hsz0⟩ : ∃ n,n=xt.length:=⟨_,rfl⟩
            have hsz:(strOfNums xt).size=sz:=by rw [strOfNums_size,hsz0]
            have Hsz:=Bx.mk hsz0
            have l1:sz≤10000:=by omega
            clear hbW KX hsz0 h64 HW hlen
            generalize strOfNums xt=Sx at *
            have y0:True:=trivial
            by_cases c1:xp<0
            · have n1:decide (xp<0)=true:=by simpa using c1
              have HF:Bx (okV md l=1):=⟨HR1.out fun h=>by have:=(h k _ Hlt.out HX.out).1;simp only at this;omega⟩
              clear c1
              refine wp_region_quiet_below (by kernel_rfl) (by kernel_rfl) ?_
              repeat (first
               | go_big_quiet_step (first | with_reducible exact q0.out _ _)
               | quiet_step (first | with_reducible exact q0.out _ _))
              refine wpQuiet_nil ?_
              rintro _ ⟨⟨dq,osq⟩,rfl⟩
              have hbq:=below_regrown W dq osq
              have HJ:=Bx.mk (HBW.out.trans (hbq.mono HBW.out.size))
              clear hbq x0 x1 y0 q0 hsz
              generalize grow (redrawn W dq) osq=w9 at *
              go_wp2_with fail
              go_ret
              exact ⟨by rw [HF.out];first | rfl | trivial,HJ.out⟩
            · have n1:decide (xp<0)=false:=by simpa using c1
              by_cases c2:md≤xp
              · have n2:decide (xp ≥ md)=true:=by simpa using c2
                have HF:Bx (okV md l=1):=⟨HR1.out fun h=>by have:=(h k _ Hlt.out HX.out).2.1;simp only at this;omega⟩
                clear c1 c2
                refine wp_region_quiet_below (by kernel_rfl) (by kernel_rfl) ?_
                repeat (first
                 | go_big_quiet_step (first | with_reducible exact q0.out _ _)
                 | quiet_step (first | with_reducible exact q0.out _ _))
                refine wpQuiet_nil ?_
                rintro _ ⟨⟨dq,osq⟩,rfl⟩
                have hbq:=below_regrown W dq osq
                have HJ:=Bx.mk (HBW.out.trans (hbq.mono HBW.out.size))
                clear hbq x0 x1 y0 q0 hsz
                generalize grow (redrawn W dq) osq=w9 at *
                go_wp2_with fail
                go_ret
                exact ⟨by rw [HF.out];first | rfl | trivial,HJ.out⟩
              · have n2:decide (xp ≥ md)=false:=by simpa using c2
                by_cases c3:sz=116
                · subst c3
                  have n3:(((116:Nat):Int) != 116)=false:=by decide
                  rcases Nat.eq_zero_or_pos k with c4 | c4
                  · have n4:decide ((k:Int) > 0)=false:=by simp;omega
                    have n4b:decide (0<k)=false:=by simp;omega
                    have HG:Bx (okTo md l (k+1)):=⟨HO.out.succ HX.out ⟨by simp only;omega,by simp only;omega,Hsz.out.symm,fun h=>absurd h (by omega)⟩⟩
                    clear c1 c2
                    refine wp_region_quiet_below (by kernel_rfl) (by kernel_rfl) ?_
                    repeat (first
                     | go_big_quiet_step (first | with_reducible exact q0.out _ _)
                     | quiet_step (first | with_reducible exact q0.out _ _))
                    refine wpQuiet_nil ?_
                    rintro _ ⟨⟨dq,osq⟩,rfl⟩
                    have hbq:=below_regrown W dq osq
                    have HJ:=Bx.mk (HBW.out.trans (hbq.mono HBW.out.size))
                    clear hbq x0 x1 y0 q0 hsz
                    generalize grow (redrawn W dq) osq=w9 at *
                    go_wp2_with fail
                    go_roundw
                    case rel=>exact ⟨k+1,by have:=Hlt.out;omega,by go_num,HG,HJ⟩
                    case measure=>have:=Hlt.out;simp [intOf];omega
                  · have n4:decide ((k:Int) > 0)=true:=by simp;omega
                    have n4b:decide (0<k)=true:=by simp;omega
                    obtain ⟨jm,hjm⟩ : ∃ n:Nat,n=k - 1:=⟨_,rfl⟩
                    have e6:IntKind.i64.wrap ((k:Int) - 1)=(jm:Int):=by rw [show (k:Int) - 1=(jm:Int) by omega];exact IntWalk.i64_in _ (by omega)
                    obtain ⟨y,hy⟩ : ∃ y,l[jm]? = some y:=⟨_,List.getElem?_eq_getElem (by rw [←Hn.out];have:=Hlt.out;omega)⟩
                    obtain ⟨b',off',e,hy1,-⟩:=HSl.out jm y hy
                    simp only [Option.some.injEq,Addr.mk.injEq,and_true] at e
                    obtain ⟨rfl,rfl⟩:=e
                    have HY:=Bx.mk (show l[k - 1]? = some y by rw [←hjm];exact hy)
                    obtain ⟨yp,yt⟩:=y
                    simp only at hy1
                    clear y0
                    have y0 : ∀ dk osk,(grow (redrawn W dk) osk).cell? ⟨b,off+jm * 2,none⟩=some (.int .i64 yp):=cell_regrown (cell_later HBW.out hy1)
                    have b3:(0:Int)≤(jm:Int):=by omega
                    have b4:(jm:Int)<(n:Int):=by omega
                    have Hk0:=Bx.mk c4
                    clear hy hy1 hjm c4
                    by_cases c5:xp≤yp
                    · have n5:decide (yp ≥ xp)=true:=by simpa using c5
                      have HF:Bx (okV md l=1):=⟨HR1.out fun h=>by have:=(h k _ Hlt.out HX.out).2.2.2 Hk0.out _ HY.out;simp only at this;omega⟩
                      clear c1 c2 c5
                      refine wp_region_quiet_below (by kernel_rfl) (by kernel_rfl) ?_
                      repeat (first
                       | go_big_quiet_step (first | with_reducible exact q0.out _ _)
                       | quiet_step (first | with_reducible exact q0.out _ _))
                      refine wpQuiet_nil ?_
                      rintro _ ⟨⟨dq,osq⟩,rfl⟩
                      have hbq:=below_regrown W dq osq
                      have HJ:=Bx.mk (HBW.out.trans (hbq.mono HBW.out.size))
                      clear hbq x0 x1 y0 q0 hsz
                      generalize grow (redrawn W dq) osq=w9 at *
                      go_wp2_with fail
                      go_ret
                      exact ⟨by rw [HF.out];first | rfl | trivial,HJ.out⟩
                    · have n5:decide (yp ≥ xp)=false:=by simpa using c5
                      have HG:Bx (okTo md l (k+1)):=⟨HO.out.succ HX.out ⟨by simp only;omega,by simp only;omega,Hsz.out.symm,fun _ z hz=>by rw [HY.out] at hz;obtain rfl:=Option.some.inj hz;simp only;omega⟩⟩
                      clear c1 c2 c5
                      refine wp_region_quiet_below (by kernel_rfl) (by kernel_rfl) ?_
                      repeat (first
                       | go_big_quiet_step (first | with_reducible exact q0.out _ _)
                       | quiet_step (first | with_reducible exact q0.out _ _))
                      refine wpQuiet_nil ?_
                      rintro _ ⟨⟨dq,osq⟩,rfl⟩
                      have hbq:=below_regrown W dq osq
                      have HJ:=Bx.mk (HBW.out.trans (hbq.mono HBW.out.size))
                      clear hbq x0 x1 y0 q0 hsz
                      generalize grow (redrawn W dq) osq=w9 at *
                      go_wp2_with fail
                      go_roundw
                      case rel=>exact ⟨k+1,by have:=Hlt.out;omega,by go_num,HG,HJ⟩
                      case measure=>have:=Hlt.out;simp [intOf];omega
                · have n3:((sz:Int) != 116)=true:=by simp;omega
                  have HF:Bx (okV md l=1):=⟨HR1.out fun h=>by have:=(h k _ Hlt.out HX.out).2.2.1;simp only at this;have:=Hsz.out;omega⟩
                  clear c1 c2 c3
                  refine wp_region_quiet_below (by kernel_rfl) (by kernel_rfl) ?_
                  repeat (first
                   | go_big_quiet_step (first | with_reducible exact q0.out _ _)
                   | quiet_step (first | with_reducible exact q0.out _ _))
                  refine wpQuiet_nil ?_
                  rintro _ ⟨⟨dq,osq⟩,rfl⟩
                  have hbq:=below_regrown W dq osq
                  have HJ:=Bx.mk (HBW.out.trans (hbq.mono HBW.out.size))
                  clear hbq x0 x1 y0 q0 hsz
                  generalize grow (redrawn W dq) osq=w9 at *
                  go_wp2_with fail
                  go_ret
                  exact ⟨by rw [HF.out];first | rfl | trivial,HJ.out⟩
          · obtain rfl:k=n:=by omega
            have t0:decide ((k:Int)<(k:Int))=false:=by simp
            have hr:=HR0.out HO.out
            go_wp2_with fail
            go_ret
            exact ⟨by rw [hr];rfl,HW.out⟩
end
section
def Dk.upTo (d:Dk) (ops:List DOp) (k:Nat):Dk:=(ops.take k).foldl (fun d o=>(d.op o).1) d
theorem Dk.upTo_succ {d:Dk} {ops:List DOp} {k:Nat} {o:DOp} (h:ops[k]? = some o):d.upTo ops (k+1)=((d.upTo ops k).op o).1:=by
 have hk:k<ops.length:=(List.getElem?_eq_some_iff.1 h).1
 unfold Dk.upTo
 rw [List.take_succ_eq_append_getElem hk,List.foldl_append]
 rw [List.getElem?_eq_getElem hk] at h
 rw [Option.some.inj h];rfl
def Dk.fine (d:Dk) (ops:List DOp) (k:Nat):Prop := ∀ j o,j<k→ops[j]? = some o→((d.upTo ops j).op o).2=0
theorem Dk.fine_zero (d:Dk) (ops:List DOp):d.fine ops 0:=fun j o h=>absurd h (by omega)
theorem Dk.fine_succ {d:Dk} {ops:List DOp} {k:Nat} {o:DOp} (h:d.fine ops k) (ho:ops[k]? = some o) (h0:((d.upTo ops k).op o).2=0):d.fine ops (k+1):=fun j p hj hp=>by
 by_cases e:j=k
 · subst e;rw [ho] at hp;obtain rfl:=Option.some.inj hp;exact h0
 · exact h j p (by omega) hp
theorem Dk.fine_tail {d:Dk} {o:DOp} {ops:List DOp} {k:Nat} (h:d.fine (o::ops) (k+1)):(d.op o).2=0∧(d.op o).1.fine ops k :=
 ⟨h 0 o (by omega) rfl,fun j p hj hp=>h (j+1) p (by omega) hp⟩
theorem Dk.run_all : ∀ {ops:List DOp} {d:Dk},d.fine ops ops.length→d.run ops=(d.upTo ops ops.length,0)
 | [],_,_=>rfl
 | o :: ops, d, h => by
   obtain ⟨h0,h1⟩:=Dk.fine_tail h
   unfold Dk.run
   rw [if_pos h0,Dk.run_all h1];rfl
theorem Dk.run_fail : ∀ {ops:List DOp} {d:Dk} {k:Nat} {o:DOp},d.fine ops k→ops[k]? = some o→((d.upTo ops k).op o).2 ≠ 0→d.run ops=(d.upTo ops k).op o
 | [],_,_,_,_,h,_=>by simp at h
 | p :: ops, d, 0, o, _, h, hn => by
   obtain rfl:=Option.some.inj h
   unfold Dk.run
   exact if_neg (show ¬(d.op p).2=0 from hn)
 | p :: ops, d, k + 1, o, hf, h, hn => by
   obtain ⟨h0,h1⟩:=Dk.fine_tail hf
   unfold Dk.run
   rw [if_pos h0,Dk.run_fail h1 h hn];rfl
end
section
open Go.RowKit Go.Sort Go.Maps
abbrev putV (a b c:Nat):Value:=.func (.func 66) #[] #[.pointer (some ⟨a,0,none⟩),.pointer (some ⟨b,0,none⟩),.pointer (some ⟨c,0,none⟩)]
abbrev flushV (dp:Nat):Value:=.func (.func 43) #[.pointer (some ⟨dp,0,none⟩)] #[]
def StepV (A:Nat→Prop) (dp:Nat) (W:World) (v:Value):DOp→Prop
 | .w i s=>(s.length=128∧Byts s) ∧ ∃ a b c,(A a∧A b∧A c)∧v=putV a b c∧Bk W a #[.pointer (some ⟨dp,0,none⟩)] 24∧Bk W b #[.int .i64 (i:Int)] 3∧Bk W c #[.string (strOfNums s)] 9
 | .f=>v=flushV dp
theorem StepV.keep {A A':Nat→Prop} {dp:Nat} {W W':World} {v:Value} {o:DOp} (h:StepV A dp W v o) (hA : ∀ k,A k→A' k) (hk : ∀ k,A k→k<W.heap.size→W'.heap[k]? = W.heap[k]?):StepV A' dp W' v o:=by
 cases o with
 | f=>exact h
 | w i s =>
   obtain ⟨h0,a,b,c,⟨ha,hb,hc⟩,hv,h1,h2,h3⟩:=h
   exact ⟨h0,a,b,c,⟨hA _ ha,hA _ hb,hA _ hc⟩,hv,(hk _ ha (Bk.lt h1)).trans h1,(hk _ hb (Bk.lt h2)).trans h2,(hk _ hc (Bk.lt h3)).trans h3⟩
structure StepsV (A:Nat→Prop) (dp:Nat) (W:World) (vs:List Value) (ops:List DOp):Prop where
 len:vs.length=ops.length
 at_ : ∀ (k:Nat) v o,vs[k]? = some v→ops[k]? = some o→StepV A dp W v o
theorem StepsV.keep {A A':Nat→Prop} {dp:Nat} {W W':World} {vs:List Value} {ops:List DOp} (h:StepsV A dp W vs ops) (hA : ∀ k,A k→A' k) (hk : ∀ k,A k→k<W.heap.size→W'.heap[k]? = W.heap[k]?):StepsV A' dp W' vs ops :=
 ⟨h.len,fun k v o hv ho=>(h.at_ k v o hv ho).keep hA hk⟩
theorem StepsV.mono {A A':Nat→Prop} {dp:Nat} {W:World} {vs:List Value} {ops:List DOp} (h:StepsV A dp W vs ops) (hA : ∀ k,A k→A' k):StepsV A' dp W vs ops:=h.keep hA fun _ _ _=>rfl
theorem StepsV.later {A:Nat→Prop} {dp:Nat} {W W':World} {vs:List Value} {ops:List DOp} (h:StepsV A dp W vs ops) (hb:Below W.heap.size W W'):StepsV A dp W' vs ops:=h.keep (fun _ h=>h) fun k _ hk=>hb.block k hk
theorem StepsV.grown {A:Nat→Prop} {dp:Nat} {W W':World} {vs:List Value} {ops:List DOp} {row:Option Nat} (h:StepsV A dp W vs ops) (hg:W.grownBy W' row) (hr : ∀ g,row=some g → ¬A g):StepsV A dp W' vs ops :=
 h.keep (fun _ h=>h) fun k hA hk=>hg.block k hk fun e=>hr k e.symm hA
theorem StepsV.chg {A:Nat→Prop} {dp:Nat} {W W':World} {vs:List Value} {ops:List DOp} {S:Nat→Prop} (h:StepsV A dp W vs ops) (hc:Chg S W W') (hS : ∀ k,A k → ¬S k):StepsV A dp W' vs ops :=
 h.keep (fun _ h=>h) fun k hA hk=>hc.block k hk (hS k hA)
theorem StepsV.nil (A:Nat→Prop) (dp:Nat) (W:World):StepsV A dp W [] []:=⟨rfl,fun k v o hv=>by simp at hv⟩
theorem StepsV.snoc {A:Nat→Prop} {dp:Nat} {W:World} {vs:List Value} {ops:List DOp} (h:StepsV A dp W vs ops) {v:Value} {o:DOp} (hv:StepV A dp W v o):StepsV A dp W (vs++[v]) (ops++[o]):=by
 refine ⟨by rw [List.length_append,List.length_append,h.len];rfl,fun k x y hx hy=>?_⟩
 by_cases hk:k<vs.length
 · rw [List.getElem?_append_left hk] at hx
   rw [List.getElem?_append_left (by rw [←h.len];exact hk)] at hy
   exact h.at_ k x y hx hy
 · rw [List.getElem?_append_right (by omega)] at hx
   rw [List.getElem?_append_right (by rw [←h.len];omega)] at hy
   rw [←h.len] at hy
   have h0:k - vs.length=0:=by
    have:=(List.getElem?_eq_some_iff.1 hx).1
    simp only [List.length_cons,List.length_nil] at this;omega
   rw [h0] at hx hy
   obtain rfl:=Option.some.inj hx
   obtain rfl:=Option.some.inj hy
   exact hv
theorem StepsV.app {A:Nat→Prop} {dp:Nat} {W:World} {vs us:List Value} {ops pos:List DOp} (h:StepsV A dp W vs ops) (h':StepsV A dp W us pos):StepsV A dp W (vs++us) (ops++pos):=by
 refine ⟨by rw [List.length_append,List.length_append,h.len,h'.len],fun k x y hx hy=>?_⟩
 by_cases hk:k<vs.length
 · rw [List.getElem?_append_left hk] at hx
   rw [List.getElem?_append_left (by rw [←h.len];exact hk)] at hy
   exact h.at_ k x y hx hy
 · rw [List.getElem?_append_right (by omega)] at hx
   rw [List.getElem?_append_right (by rw [←h.len];omega)] at hy
   rw [←h.len] at hy
   exact h'.at_ _ x y hx hy
def RunJ (dp g mb cap m:Nat) (d:Dk) (ops:List DOp) (w:World) (k:Nat) (W:World):Prop :=
 d.fine ops k∧DkIs W dp g mb cap (m+k) (d.upTo ops k)∧Chg (In3 dp g mb) w W
def RunQ (dp g mb cap m n:Nat) (d:Dk) (ops:List DOp) (w:World) (er:Int) (W:World):Prop :=
 er=(d.run ops).2∧DkIs W dp g mb cap (m+n) (d.run ops).1∧Chg (In3 dp g mb) w W
theorem step_run (A:Nat→Prop) (dp g mb cap m:Nat) (d:Dk) (W:World) (hd:DkIs W dp g mb cap m d) (hm:m<1000000) (v:Value) (o:DOp) (hv:StepV A dp W v o) :
 ∃ fid bd cp, v = .func (.func fid) bd cp ∧ (∀ args W, (callFunc fid args).run Tryd.prog W = .ok (.enter fid args) W) ∧
   Calls Tryd.prog fid (bd++cp) W fun e w'=>e = .returned (.int .i64 (d.op o).2)∧DkIs w' dp g mb cap (m+1) (d.op o).1∧Chg (In3 dp g mb) W w':=by
 cases o with
 | f =>
   obtain rfl:=hv
   refine ⟨_,_,_,rfl,enters_of Tryd.func43 (by kernel_rfl) rfl,?_⟩
   exact (flush_any W dp g mb cap m d hd).mono fun e w' h=>⟨h.1,h.2.1.mono (Nat.le_succ m),h.2.2⟩
 | w i s =>
   obtain ⟨⟨hl,hb⟩,a,b,c,_,rfl,h1,h2,h3⟩:=hv
   refine ⟨_,_,_,rfl,enters_of Tryd.func66 (by kernel_rfl) rfl,?_⟩
   refine put1_any a b c _ dp (i:Int) (strOfNums s) rfl W h1 h2 h3 _ ?_ ⟨?_⟩
   · rintro e w' ⟨rfl,_⟩;exact ⟨_,rfl⟩
   · exact write_any W dp g mb cap m d hd hm (i:Int) 0 s hb (by omega) (by omega)
def fidOf (v:Value):FuncId:=match v with | .func (.func f) _ _=>f | _=>0
def bdOf (v:Value):Array Value:=match v with | .func _ b _=>b | _=>#[]
def cpOf (v:Value):Array Value:=match v with | .func _ _ c=>c | _=>#[]
theorem prun_ops (A:Nat→Prop) (dp g mb cap m:Nat) (d:Dk) (w:World) (hd:DkIs w dp g mb cap m d) (vs:List Value) (ops:List DOp) (hm:m+ops.length<1000000) (hn:ops.length≤1000) (hv:StepsV A dp w vs ops) (hA : ∀ k,A k → ¬In3 dp g mb k)
 (ga off c:Nat) (hc : ∀ (k:Nat) v,vs[k]? = some v→w.cell? ⟨ga,off+k,none⟩=some v) (hga : ¬In3 dp g mb ga) :
 Calls Tryd.prog 44 #[.slice (some ⟨ga,off,none⟩) ops.length c] w fun e w'=>e = .returned (.int .i64 (d.run ops).2)∧DkIs w' dp g mb cap (m+ops.length) (d.run ops).1∧Chg (In3 dp g mb) w w':=by
 have hvl:=hv.len
 have at_ : ∀ k,k<ops.length → ∃ v o,vs[k]? = some v∧ops[k]? = some o:=fun k hk=>⟨_,_,List.getElem?_eq_getElem (by omega),List.getElem?_eq_getElem hk⟩
 have stp : ∀ k v o W,vs[k]? = some v→ops[k]? = some o→RunJ dp g mb cap m d ops w k W→StepV A dp W v o:=fun k v o W h1 h2 hJ=>(hv.chg hJ.2.2 hA).at_ k v o h1 h2
 have key : ∀ k v o,k<ops.length→vs[k]? = some v→ops[k]? = some o → ∀ W,RunJ dp g mb cap m d ops w k W → ∃ fid bd cp,v = .func (.func fid) bd cp∧(∀ args W,(callFunc fid args).run Tryd.prog W = .ok (.enter fid args) W) ∧
  Calls Tryd.prog fid (bd++cp) W fun e w'=>e = .returned (.int .i64 ((d.upTo ops k).op o).2)∧DkIs w' dp g mb cap (m+k+1) ((d.upTo ops k).op o).1∧Chg (In3 dp g mb) W w':=fun k v o hk h1 h2 W hJ =>
  step_run A dp g mb cap (m+k) (d.upTo ops k) W hJ.2.1 (by omega) v o (stp k v o W h1 h2 hJ)
 have form : ∀ k v,k<ops.length→vs[k]? = some v → ∃ fid bd cp,v = .func (.func fid) bd cp∧(∀ args W,(callFunc fid args).run Tryd.prog W = .ok (.enter fid args) W):=fun k v hk h1=>by
  obtain ⟨_,o,_,ho⟩:=at_ k hk
  have hs:=hv.at_ k v o h1 ho
  cases o with
  | f=>obtain rfl:=hs;exact ⟨_,_,_,rfl,enters_of Tryd.func43 (by kernel_rfl) rfl⟩
  | w i s=>obtain ⟨_,a,b,c,_,rfl,_⟩:=hs;exact ⟨_,_,_,rfl,enters_of Tryd.func66 (by kernel_rfl) rfl⟩
 refine (prun_any ga off ops.length c (by omega) (fun k=>fidOf (vs.getD k undef)) (fun k=>bdOf (vs.getD k undef)) (fun k=>cpOf (vs.getD k undef)) (RunJ dp g mb cap m d ops w) (RunQ dp g mb cap m ops.length d ops w) w ⟨Dk.fine_zero _ _,hd,Chg.refl _ _⟩ ⟨?_⟩ ⟨?_⟩ ⟨?_⟩).mono ?_
 · intro k hk args W
   obtain ⟨v,o,h1,_⟩:=at_ k hk
   obtain ⟨fid,bd,cp,rfl,he⟩:=form k v hk h1
   have:fidOf (vs.getD k undef)=fid:=by rw [List.getD_eq_getElem?_getD,h1];rfl
   simp only [this];exact he args W
 · intro k hk W hJ
   obtain ⟨v,o,h1,_⟩:=at_ k hk
   obtain ⟨fid,bd,cp,rfl,he⟩:=form k v hk h1
   have e1:vs.getD k undef = .func (.func fid) bd cp:=by rw [List.getD_eq_getElem?_getD,h1];rfl
   simp only [e1]
   have h2:=hc k _ h1
   rw [World.cell?_of_block (hJ.2.2.block _ (World.block_lt_of_cell? w _ h2) hga)]
   exact h2
 · intro k hk W hJ
   obtain ⟨v,o,h1,ho⟩:=at_ k hk
   obtain ⟨fid,bd,cp,rfl,he,hC⟩:=key k v o hk h1 ho W hJ
   have e1:vs.getD k undef = .func (.func fid) bd cp:=by rw [List.getD_eq_getElem?_getD,h1];rfl
   simp only [e1]
   refine hC.mono ?_
   rintro e w' ⟨rfl,h3,h4⟩
   by_cases h0:((d.upTo ops k).op o).2=0
   · refine .inl ⟨by rw [h0],Dk.fine_succ hJ.1 ho h0,?_,hJ.2.2.trans h4 fun _ _ h=>h⟩
     rw [Dk.upTo_succ ho];exact h3
   · refine .inr ⟨_,h0,rfl,?_⟩
     have hr:=Dk.run_fail hJ.1 ho h0
     exact ⟨by rw [hr],by rw [hr];exact h3.mono (by omega),hJ.2.2.trans h4 fun _ _ h=>h⟩
 · rintro e w' (⟨rfl,hf,h1,h2⟩ | ⟨er,_,rfl,h1,h2,h3⟩)
   · rw [Dk.run_all hf]
     exact ⟨rfl,h1,h2⟩
   · exact ⟨by rw [h1],h2,h3⟩
end
section
open Go.Sort Go.RowKit
@[go_sem] def relUponG (Le : World → World → Prop) (P : Program) (w : World) (R : Value → World → Prop) : Result Next → Prop
  | .ok (.value u) w'=>Le w w'∧R u w'
  | .ok (.enter f args) w'=>w'=w∧Calls P f args w (fun e w'' => ∃ v,e = .returned v∧Le w w''∧R v w'')
  | _=>False
structure LeW (Le:World→World→Prop):Prop where
 trans : ∀ {a b c:World},Le a b→Le b c→Le a c
 drew : ∀ (w:World) (n:Nat),Le w { w with drawn:=n }
def FirmG (Le:World→World→Prop) (R:Value→World→Prop):Prop := ∀ v w w',Le w w'→R v w→R v w'
structure RIG (Le:World→World→Prop) (l:List Oper) (n:Nat) (R:Nat→Value→World→Prop) (W:World) (a:Act) (s:Array Bool) (a':Act) (w':World):Prop where
 tsize:a'.tmps.size=a.tmps.size
 defers:a'.defers=a.defers
 old : ∀ x:Nat,(∀ i,i<n→s.getD i false=true→dstAt l i ≠ some x)→a'.tmps[x]? = a.tmps[x]?
 head : ∀ i d,i<n→s.getD i false=true→dstAt l i=some d → ∃ v,a'.tmps[d]? = some v∧R i v w'
 below:Le W w'
section
variable {P:Program} {l:List Oper} {n:Nat} {R:Nat→Value→World→Prop} {W:World} {a:Act} {Le:World→World→Prop}
theorem riG_step (LE:LeW Le) (B:RelB l n) (hf : ∀ i,i<n→FirmG Le (R i)) (hd : ∀ i d,i<n→dstAt l i=some d→d<a.tmps.size)
 (hop : ∀ i o,i<n→l[i]? = some o → ∀ (ρ:Operand→Value) w,Le W w→(∀ v,ρ (.const v)=v)→(∀ g,ρ (.global g) = .pointer (some ⟨g,0,none⟩))→(∀ f,ρ (.func f) = .func (.func f) #[] #[]) →
  (∀ d,.tmp d∈o.op.operands→Known l n R a d (ρ (.tmp d)) w)→relUponG Le P w (R i) ((execOp ρ o).run P w))
 {Q:Exit→Act→World→Prop} {s:Array Bool} (hs:s.size=n) {a':Act} {w':World} (I:RIG Le l n R W a s a' w') {i:Nat} (hin:i<n) (hr:i∈Region.ready .any l.toArray (s++Array.replicate (l.length - n) false)) (hun:s.getD i true=false) :
 wpOp P l.toArray Q i (fun a'' w''=>RIG Le l n R W a (s.setIfInBounds i true) a'' w'') a' w':=by
 obtain ⟨_,o,ho,hall⟩:=mem_ready.1 hr
 have hol:l[i]? = some o:=by simpa using ho
 have hdo:dstAt l i=o.dst:=by simp [dstAt,hol]
 obtain ⟨di,hdi⟩:=B.dst i o hin hol
 have hself:=getD_set_self (s:=s) (i:=i) (by omega)
 have hnew : ∀ j,j ≠ i→(s.setIfInBounds i true).getD j false=s.getD j false:=fun j hj=>getD_set_ne false (Ne.symm hj)
 unfold wpOp
 simp only [ho]
 have hw:Region.wanted o (yielded l.toArray a'.tmps)=true:=by simp [Region.wanted,B.guard i o hin hol]
 rw [if_pos hw]
 left
 have hk : ∀ d,.tmp d∈o.op.operands→Known l n R a d (a'.eval (.tmp d)) w':=by
  intro d hd'
  unfold Known
  cases hm:maker l n d with
  | some j =>
    obtain ⟨hj,hdj⟩:=maker_spec hm
    obtain ⟨hji,hwt⟩:=B.data i o d j hin hol hd' hj hdj
    have hlj:=waits_listed hwt hr
    rw [app_get hs hj] at hlj
    obtain ⟨v,h1,h2⟩:=I.head j d hj hlj hdj
    have:a'.eval (.tmp d)=v:=by simp [Act.eval,Array.getD_eq_getD_getElem?,h1]
    rw [this];exact h2
  | none=>exact eval_tmp (I.old d fun j hj _ e=>maker_none hm j hj e)
 have hrun:=hop i o hin hol a'.eval w' I.below (fun _=>rfl) (fun _=>rfl) (fun _=>rfl) hk
 have post : ∀ v w'',Le w' w''→R i v w''→RIG Le l n R W a (s.setIfInBounds i true) (a'.put o.dst v) w'':=by
  intro v w'' hb hR
  refine ⟨by rw [put_size,I.tsize],by rw [put_defers,I.defers],fun x hx=>?_,fun j d hj hs' hdj=>?_,LE.trans I.below hb⟩
  · rw [put_other v (fun e=>hx i hin hself (by rw [hdo];exact e))]
    refine I.old x fun j hj hs'=>hx j hj ?_
    by_cases e:j=i
    · subst e;exact hself
    · rw [hnew j e];exact hs'
  · by_cases e:j=i
    · subst e
      rw [hdo] at hdj
      rw [hdj,put_same v (by rw [I.tsize];exact hd j d hin (by rw [hdo];exact hdj))]
      exact ⟨v,rfl,hR⟩
    · rw [hnew j e] at hs'
      obtain ⟨u,h1,h2⟩:=I.head j d hj hs' hdj
      rw [put_other v (fun e'=>B.dist j i d hj hin e hdj (by rw [hdo];exact e'))]
      exact ⟨u,h1,hf j hj u w' w'' hb h2⟩
 unfold Oper.wp
 generalize (execOp a'.eval o).run P w'=r at hrun
 cases r with
 | ok nx w'' =>
   cases nx <;> simp only [relUponG] at hrun <;> simp only [Oper.upon]
   case value u=>exact post _ _ hrun.1 hrun.2
   case enter f args =>
    obtain ⟨rfl,hc⟩:=hrun
    refine hc.mono fun e w3 ⟨v,he,hb,hR⟩=>?_
    subst he
    exact post _ _ hb hR
 | halt x w''=>simp only [relUponG] at hrun
end
end
section
open Go.Sort Go.RowKit
section
variable {P:Program} {l:List Oper} {n:Nat} {R:Nat→Value→World→Prop} {W:World} {a:Act}
theorem ri_anyT (hn:n≤l.length) (B:RelB l n) (hb:backB .any l n=true) (ht:tailT .any l n=true) (hf : ∀ i,i<n→Firm (R i)) (hd : ∀ i d,i<n→dstAt l i=some d→d<a.tmps.size)
 (hop : ∀ i o,i<n→l[i]? = some o → ∀ (ρ:Operand→Value) w,Below W.heap.size W w→(∀ v,ρ (.const v)=v)→(∀ g,ρ (.global g) = .pointer (some ⟨g,0,none⟩))→(∀ f,ρ (.func f) = .func (.func f) #[] #[]) →
  (∀ d,.tmp d∈o.op.operands→Known l n R a d (ρ (.tmp d)) w)→relUpon P w (R i) ((execOp ρ o).run P w))
 {Q:Exit→Act→World→Prop} (hend : ∀ a' w',RI l n R W a (Array.replicate n true) a' w'→wpAny P .any l.toArray Q (l.length - n) (Array.replicate n true++Array.replicate (l.length - n) false) a' w') :
 ∀ (f:Nat) (s:Array Bool) (a':Act) (w':World),s.size=n→Shut .any l s→unl s=f→RI l n R W a s a' w'→wpAny P .any l.toArray Q (f+(l.length - n)) (s++Array.replicate (l.length - n) false) a' w'
 | 0, s, a', w', hs, _, hu, I => by
   have e:s=Array.replicate n true:=by rw [←hs];exact unl_zero hu
   rw [Nat.zero_add,e]
   rw [e] at I
   exact hend a' w' I
 | f + 1, s, a', w', hs, hsh, hu, I => by
   obtain ⟨k,hk,hun⟩:=unl_pos (s:=s) (by omega)
   rw [show f+1+(l.length - n)=(f+(l.length - n))+1 by omega]
   refine ⟨fun h0=>?_,fun i hi=>?_⟩
   · obtain ⟨i,hi⟩:=ready_some (g:=l.length - n) hs hn hb (k+1) k (by omega) (by omega) hun
     rw [h0] at hi;cases hi
   · have hin:=ready_not_tailT hs hsh (by omega:k<n) hun ht hi
     have hiu:s.getD i true=false:=by have:=(mem_ready.1 hi).1;rwa [app_get hs hin] at this
     refine wpOp_mono (fun a'' w'' I'=>?_) (ri_step B hf hd hop hs I hin hi hiu)
     rw [app_set (by omega)]
     refine ri_anyT hn B hb ht hf hd hop hend f _ a'' w'' (by simpa using hs) (shut_set hsh (ready_head hs hin hb hi) hin) ?_ I'
     have:=unl_set (s:=s) (by omega) hiu
     omega
def headRT (l:List Oper) (n:Nat):Bool :=
 decide (n<l.length) && backB .any l n && tailT .any l n && relB l n && Region.seqB .any l.toArray (l.length - n) n (Array.replicate n true++Array.replicate (l.length - n) false)
theorem any_relT {Q:Exit→Act→World→Prop} (n:Nat) (R:Nat→Value→World→Prop) (hB:headRT l n=true) (m:Nat) (hdm:dstB l m=true) (ham:a.tmps.size=m)
 (hf : ∀ i,i<n→Firm (R i))
 (hop : ∀ i o,i<n→l[i]? = some o → ∀ (ρ:Operand→Value) w,Below W.heap.size W w→(∀ v,ρ (.const v)=v)→(∀ g,ρ (.global g) = .pointer (some ⟨g,0,none⟩))→(∀ f,ρ (.func f) = .func (.func f) #[] #[]) →
  (∀ d,.tmp d∈o.op.operands→Known l n R a d (ρ (.tmp d)) w)→relUpon P w (R i) ((execOp ρ o).run P w))
 (h : ∀ (vs:List Value) w',vs.length=n→Below W.heap.size W w'→(∀ i v,vs[i]? = some v→R i v w')→wpList P l.toArray Q (l.drop n) (puts (((l.take n).map (·.dst)).zip vs) a) w'):wpAny P .any l.toArray Q l.toArray.size (Array.replicate l.toArray.size false) a { W with drawn:=W.drawn+1 }:=by
 simp only [headRT,Bool.and_eq_true,decide_eq_true_eq] at hB
 obtain ⟨⟨⟨⟨hn,hb⟩,ht⟩,hrel⟩,hseq⟩:=hB
 have B:=relB_spec hrel
 have hd : ∀ i d,i<n→dstAt l i=some d→d<a.tmps.size:=fun i d _ hd=>by rw [ham];exact dstB_spec hdm hd
 have:=ri_anyT (Q:=Q) (by omega) B hb ht hf hd hop (fun a' w' I=>?_) n (Array.replicate n false) a { W with drawn:=W.drawn+1 } (by simp) (fun m k h=>by
  simp only [Array.getD_eq_getD_getElem?,Array.getElem?_replicate] at h
  split at h <;> simp at h) (by simp [unl])
  ⟨rfl,rfl,fun x _=>rfl,fun i d _ hs=>(by rw [getD_replicate_false] at hs;cases hs),⟨rfl,rfl,rfl,Nat.le_refl _,fun _ _=>rfl⟩⟩
 · have e:Array.replicate n false++Array.replicate (l.length - n) false=Array.replicate l.toArray.size false:=by
    rw [Array.replicate_append_replicate];congr 1;simp;omega
   rw [e,show n+(l.length - n)=l.toArray.size by simp;omega] at this
   exact this
 · have hv : ∀ i,∃ v,i<n→(∃ d,dstAt l i=some d∧a'.tmps[d]? = some v)∧R i v w':=by
    intro i
    by_cases hi:i<n
    · obtain ⟨o,ho⟩ : ∃ o,l[i]? = some o:=⟨_,List.getElem?_eq_getElem (by omega)⟩
      obtain ⟨d,hdd⟩:=B.dst i o hi ho
      have hdl:dstAt l i=some d:=by simp [dstAt,ho,hdd]
      obtain ⟨v,h1,h2⟩:=I.head i d hi (by simp [hi]) hdl
      exact ⟨v,fun _=>⟨⟨d,hdl,h1⟩,h2⟩⟩
    · exact ⟨undef,fun h=>absurd h hi⟩
   obtain ⟨g,hg⟩:=Classical.axiomOfChoice hv
   have hlen:((List.range n).map g).length=n:=by simp
   have hz : ∀ i,i<n→(((l.take n).map (·.dst)).zip ((List.range n).map g))[i]? = some (dstAt l i,g i):=by
    intro i hi
    rw [(List.getElem?_zip_eq_some (z:=(dstAt l i,g i))).2]
    refine ⟨?_,by simp [hi]⟩
    rw [List.getElem?_map,List.getElem?_take,if_pos hi]
    unfold dstAt
    rw [List.getElem?_eq_getElem (show i<l.length by omega)];rfl
   have hlt : ∀ {i p},(((l.take n).map (·.dst)).zip ((List.range n).map g))[i]? = some p→i<n:=by
    intro i p hp
    have:=(List.getElem?_eq_some_iff.1 hp).1
    simp at this;omega
   have heq:a'=puts (((l.take n).map (·.dst)).zip ((List.range n).map g)) a:=by
    refine act_ext ?_ fun x=>?_
    · rw [(puts_size _ _).2];exact I.defers
    · by_cases hx : ∃ i,i<n∧dstAt l i=some x
      · obtain ⟨i,hi,hdx⟩:=hx
        obtain ⟨⟨d,h1,h2⟩,_⟩:=hg i hi
        rw [hdx] at h1
        obtain rfl:=Option.some.inj h1
        rw [h2]
        symm
        refine puts_in _ a x _ (hd i x hi hdx) ?_ (List.mem_iff_getElem?.2 ⟨i,by rw [hz i hi,hdx]⟩)
        rw [List.pairwise_iff_getElem]
        intro p q hp hq hpq d' e1 e2
        have n1:=hz p (hlt (List.getElem?_eq_getElem hp))
        have n2:=hz q (hlt (List.getElem?_eq_getElem hq))
        rw [List.getElem?_eq_getElem hp] at n1
        rw [List.getElem?_eq_getElem hq] at n2
        rw [Option.some.inj n1] at e1
        rw [Option.some.inj n2] at e2
        exact B.dist p q d' (hlt (List.getElem?_eq_getElem hp)) (hlt (List.getElem?_eq_getElem hq)) (by omega) e1 e2
      · rw [puts_out _ _ x (fun p hp e=>by
         obtain ⟨i,hi⟩:=List.mem_iff_getElem?.1 hp
         have hin:=hlt hi
         rw [hz i hin] at hi
         have:=Option.some.inj hi
         subst this
         exact hx ⟨i,hin,e⟩)]
        exact I.old x fun i hi _ e=>hx ⟨i,hi,e⟩
   have hres:=h ((List.range n).map g) w' hlen I.below (fun i v hi=>by
    have hin:i<n:=by have:=(List.getElem?_eq_some_iff.1 hi).1;simpa using this
    have:v=g i:=by simpa [hin] using hi.symm
    rw [this];exact (hg i hin).2)
   rw [←heq] at hres
   have:=wpAny_of_seq (P:=P) (md:=.any) (ops:=l.toArray) (Q':=Q) (l.drop n) n (Array.replicate n true++Array.replicate (l.length - n) false) a' w' (fun j=>by simp [List.getElem?_drop]) (by simpa using hseq) hres
   simpa using this
theorem wp_region_relT {id:Nat} {Q:Exit→Act→World→Prop} (n:Nat) (R:Nat→Value→World→Prop) (hm:P.follows .mixedOrders=true) (hB:headRT l n=true) (m:Nat) (hdm:dstB l m=true) (ham:a.tmps.size=m)
 (hf : ∀ i,i<n→Firm (R i))
 (hop : ∀ i o,i<n→l[i]? = some o → ∀ (ρ:Operand→Value) w,Below W.heap.size W w→(∀ v,ρ (.const v)=v)→(∀ g,ρ (.global g) = .pointer (some ⟨g,0,none⟩))→(∀ f,ρ (.func f) = .func (.func f) #[] #[]) →
  (∀ d,.tmp d∈o.op.operands→Known l n R a d (ρ (.tmp d)) w)→relUpon P w (R i) ((execOp ρ o).run P w))
 (h : ∀ (vs:List Value) w',vs.length=n→Below W.heap.size W w'→(∀ i v,vs[i]? = some v→R i v w')→wpList P l.toArray Q (l.drop n) (puts (((l.take n).map (·.dst)).zip vs) a) w'):(Code.region id l.toArray true).wp P Q a W :=
 wp_region_any hm (any_relT n R hB m hdm ham hf hop h)
end
end
end Go.Proofs.YtajhkncolbgkbaaDoor
