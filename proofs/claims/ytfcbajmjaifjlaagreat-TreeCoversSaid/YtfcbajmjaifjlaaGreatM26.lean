/- Tw4, Cub, Enp: joined by program, for one claim. -/
import Derived.Test.YtfcbajmjaifjlaaGreatMr
import Derived.Test.YtfcbajmjaifjlaaGreatM25
import Derived.Test.YtfcbajmjaifjlaaGreatM24
import Derived.Test.YtfcbajmjaifjlaaGreatM20
import Derived.Test.YtfcbajmjaifjlaaGreatM18
import Derived.Test.YtfcbajmjaifjlaaGreatM2
set_option linter.unusedVariables false
set_option linter.unusedSimpArgs false
section
namespace Go.Proofs.YtfcbajmjaifjlaaGreat
open Go.RowKit Go.Sort Go.Maps
open Oct
theorem WK.mono {w0 W:World} {Av:Nat→Prop} {N vt vb tm bm m m':Nat} {T T':Nat→Pt→Prop} {l:List Chg} (h:WK w0 Av N vt vb tm bm m T l W) (hm:m≤m') (hT : ∀ n a,n≤N→(T n a ↔ T' n a)):WK w0 Av N vt vb tm bm m' T' l W:=by
 obtain ⟨h1,h2,h3,h4,hav,hlt,h5,⟨ft,t1,t2⟩,⟨fb,b1,b2⟩⟩:=h
 exact ⟨h1,h2,h3,h4,hav,hlt,h5,⟨ft,t1.mono hm,fun n a hn ha=>⟨fun h=>(t2 n a hn ha).1 ((hT n a hn).2 h),fun h=>(t2 n a hn ha).2 (fun h'=>h ((hT n a hn).1 h'))⟩⟩,⟨fb,b1.mono hm,b2⟩⟩
def okChg (N:Nat) (c:Chg):Prop:=inB c.at (wholeB N)=true∧0≤c.n∧c.n≤255
def touT (l:List Chg) (n:Nat) (a:Pt):Prop := ∃ c∈l,Tr.InC n a c.at
def touL (l:List Chg) (c:Chg) (lv:Nat) (n:Nat) (a:Pt):Prop:=touT l n a∨(n+2<lv∧Tr.InC n a c.at)
theorem touL_start (l:List Chg) (c:Chg) (n:Nat) (a:Pt):touT l n a ↔ touL l c 2 n a:=⟨.inl,fun h=>h.resolve_right (fun h=>by omega)⟩
theorem touL_step (l:List Chg) (c:Chg) (i n:Nat) (a:Pt):(touL l c (i+2) n a∨(n=i∧Tr.InC i a c.at)) ↔ touL l c (i+2+1) n a:=by
 unfold touL
 constructor
 · rintro ((h | ⟨h,h'⟩) | ⟨rfl,h⟩)
   · exact .inl h
   · exact .inr ⟨by omega,h'⟩
   · exact .inr ⟨by omega,h⟩
 · rintro (h | ⟨h,h'⟩)
   · exact .inl (.inl h)
   · by_cases e:n=i
     · exact .inr ⟨e,e ▸ h'⟩
     · exact .inl (.inr ⟨by omega,h'⟩)
theorem touL_end (l:List Chg) (c:Chg) (N n:Nat) (hn:n≤N) (a:Pt):touL l c (N+3) n a ↔ touT (l++[c]) n a:=by
 unfold touL touT
 constructor
 · rintro (⟨c',h,h'⟩ | ⟨-,h⟩)
   · exact ⟨c',by simp [h],h'⟩
   · exact ⟨c,by simp,h⟩
 · rintro ⟨c',h,h'⟩
   rcases List.mem_append.1 h with h | h
   · exact .inl ⟨c',h,h'⟩
   · rw [List.mem_singleton.1 h] at h'
     exact .inr ⟨by omega,h'⟩
theorem take_snoc' {cs:List Chg} {j:Nat} {c:Chg} (h:cs[j]? = some c):cs.take (j+1)=cs.take j++[c]:=by
 obtain ⟨hl,rfl⟩:=List.getElem?_eq_some_iff.1 h
 exact List.take_succ_eq_append_getElem hl
abbrev Four (n:Nat):Nat→Prop:=fun k=>k=n∨k=n+1∨k=n+1+1∨k=n+1+1+1
theorem WK.made (w:World) (N:Nat) {W:World} (hW:World.alloc (World.alloc (World.alloc (World.alloc w (.map #[] 0)) (.cells #[.map (some w.heap.size)] 159)) (.map #[] 0)) (.cells #[.map (some (w.heap.size+1+1))] 160)=W) :
 WK w (Four w.heap.size) N (w.heap.size+1+1+1) (w.heap.size+1) (w.heap.size+1+1) w.heap.size 0 (touT []) [] W:=by
 subst hW
 have h0:=MapV.made 39 w
 generalize hW1:World.alloc w (.map #[] 0)=W1 at *
 have s1:W1.heap.size=w.heap.size+1:=by rw [←hW1];simp
 have b1:=bl1 hW1
 generalize hW2:World.alloc W1 _=W2 at *
 have s2:W2.heap.size=w.heap.size+1+1:=by rw [←hW2];simp;omega
 have b2:=bl1 hW2
 have k2:Bk W2 (w.heap.size+1) #[.map (some w.heap.size)] 159:=by rw [←hW2,←s1];exact Bk.new _ _ _
 have h3:=MapV.made 39 W2
 generalize hW3:World.alloc W2 (.map #[] 0)=W3 at *
 have s3:W3.heap.size=w.heap.size+1+1+1:=by rw [←hW3];simp;omega
 have b3:=bl1 hW3
 generalize hW4:World.alloc W3 _=W4
 have b4:=bl1 hW4
 have k4:Bk W4 (w.heap.size+1+1+1) #[.map (some (w.heap.size+1+1))] 160:=by rw [←hW4,←s3];exact Bk.new _ _ _
 rw [s2] at h3
 refine ⟨((b1.trans (b2.mono b1.size)).trans (b3.mono (by omega))).trans (b4.mono (by omega)),k4,(k2.later b3).later b4,⟨by omega,by omega,by omega,by omega⟩,⟨.inr (.inr (.inr rfl)),.inr (.inl rfl),.inr (.inr (.inl rfl)),.inl rfl⟩,(fun k hk=>by have:=b4.size;rcases hk with rfl | rfl | rfl | rfl <;> (first | exact k4.lt | omega)),⟨by omega,by omega,by omega,by omega,by omega⟩,⟨_,h3.of_block (b4.block _ (by omega)),fun n a _ _=>⟨fun ⟨c,h,_⟩=>by simp at h,fun _=>rfl⟩⟩,
  ⟨_,((h0.of_block (b2.block _ (by omega))).of_block (b3.block _ (by omega))).of_block (b4.block _ (by omega)),fun a _=>⟨fun _=>rfl,fun h=>absurd rfl h⟩,fun a a' v v' g _ _ h=>by cases h⟩⟩
structure WSays (V:Prop) (G:Ending→World→Prop) (w:World) (e:Ending) (w':World):Prop where
 ok:V→G e w'
 bad : ¬V→e=ret2 0 1∧Below w.heap.size w w'
attribute [local go_sem ↓] Go.wp_at_zero Go.wp_at_succ
set_option maxRecDepth 100000 in
set_option maxHeartbeats 4000000 in
theorem twrite_walk {N:Nat} (hN:N≤12) (sb:Nat) (id:Int) (ha:Option Addr) (hcp:Nat) (cs:List Chg) (hC:cs.length≤4194304) (hcap:cs.length≤hcp) (w:World) (hcs:SlC w ha cs) (G:Ending→World→Prop)
 (hch:Bx (∀ Av vt vb tm bm m W,(∀ c∈cs,okChg N c)→WK w Av N vt vb tm bm m (touT cs) cs W→Calls Tryz.prog 112 #[.pointer (some ⟨sb,0,none⟩),id,.int .i64 ((N:Int)+2),.agg #[.func (.func 117) #[] #[.pointer (some ⟨vt,0,none⟩)],.func (.func 118) #[] #[.pointer (some ⟨vb,0,none⟩)]]] W fun e w'=>G e w' ∧ ∃ i r,e=ret2 i r)) :
 Calls Tryz.prog 52 #[.pointer (some ⟨sb,0,none⟩),id,.int .i64 ((N:Int)+2),.slice ha cs.length hcp] w (WSays (∀ c∈cs,okChg N c) G w):=by
 have Hcs:=Bx.mk hcs
 have hpm:=pow_le (show N+2≤14 by omega)
 obtain ⟨M,hM⟩ : ∃ M:Int,M=2 ^ (N+2):=⟨_,rfl⟩
 rw [←hM] at hpm
 have Hwh:=Bx.mk fun W=>whole_cube_any ((N:Int)+2) W
 have Hbox:=Bx.mk fun W=>box_any (N+2) (by omega) 0 0 0 M hM (by omega) (by omega) (by omega) W
 rw [Int.zero_add,show (((N+2:Nat)):Int)=(N:Int)+2 by omega] at Hbox
 have HM:=Bx.mk hM
 have HN:=Bx.mk hN
 have Hin:=Bx.mk fun px py pz W=>in_any px py pz 0 0 0 M M M W
 clear hcs hM hpm
 have hmm:=@run_makeMap Tryz.prog
 go_enter Tryz.func52,Tryz.ntmps52
 go_wp2_with fail
 generalize hW:World.alloc (World.alloc (World.alloc (World.alloc w _) _) _) _=W
 clear hmm
 have HI:=Bx.mk (WK.made w N hW)
 clear hW
 go_loopw [21] (fun v21 wr => ∃ j:Nat,j≤cs.length∧v21 = .int .i64 j∧Bx (WK w (Four w.heap.size) N (w.heap.size+1+1+1) (w.heap.size+1) (w.heap.size+1+1) w.heap.size (30 * j) (touT (cs.take j)) (cs.take j) wr ∧ ∀ c∈cs.take j,okChg N c)) (fun i _=>cs.length - (intOf i).toNat)
 case atStart=>exact ⟨0,Nat.zero_le _,rfl,⟨HI.out,by simp⟩⟩
 case round =>
  clear HI
  obtain ⟨j,hj,rfl,hI⟩:=hrel
  by_cases hlt:j<cs.length
  · obtain ⟨⟨px,py,pz,po,pn⟩,hed⟩ : ∃ ed,cs[j]? = some ed:=⟨_,List.getElem?_eq_getElem hlt⟩
    have Hed:=Bx.mk hed
    obtain ⟨bk,off,rfl,c0,c1,c2,c3,c4⟩:=(Hcs.out.of_block (fun b hb hl=>hI.out.1.bel.block b hl):SlC wr ha cs) j _ hed
    dsimp only at c0 c1 c2 c3 c4
    have t0:decide ((j:Int)<(cs.length:Int))=true:=by simp;omega
    have b1:(0:Int)≤(j:Int):=by omega
    have b2:(j:Int)<(cs.length:Int):=by omega
    clear hed
    go_wp2_with fail
    generalize hW:World.alloc wr _=W
    have hb:=bl1 hW
    have kx:Bk W wr.heap.size #[px,py,pz,po,pn] 96:=bk0 hW rfl
    clear hW c0 c1 c2 c3 c4 b1 b2 t0
    have HK:=Bx.mk (hI.out.1.avoid (Av':=fun k=>Four w.heap.size k∨k=wr.heap.size) hb (fun k hk=>hk.imp (fun h=>h) (fun h=>Nat.le_of_eq h.symm)) (fun k hk=>by
     rcases hk with hk | rfl
     · exact Nat.lt_of_lt_of_le (hI.out.1.lt k hk) hb.size
     · exact kx.lt) ⟨.inl (.inr (.inr (.inr rfl))),.inl (.inr (.inl rfl)),.inl (.inr (.inr (.inl rfl))),.inl (.inl rfl)⟩)
    have HV:=Bx.mk hI.out.2
    have hxb:=hI.out.1.kt.lt
    clear hI hb
    generalize wr.heap.size=xb at *
    by_cases h1:inB ⟨px,py,pz⟩ (wholeB N)=true
    · have Hi:=Bx.mk fun W=>Hin.out px py pz W
      rw [show inB ⟨px,py,pz⟩ ⟨⟨0,0,0⟩,⟨M,M,M⟩⟩=true by rw [HM.out];exact h1] at Hi
      have Hc:=Bx.mk fun W=>isCell10_any pn W
      have H1:=Bx.mk h1
      clear h1
      by_cases h2:0≤pn∧pn≤255
      · rw [show decide (0≤pn∧pn≤255)=true by simpa using h2] at Hc
        have HVc:Bx (okChg N ⟨px,py,pz,po,pn⟩):=⟨⟨H1.out,h2⟩⟩
        clear h2
        obtain ⟨cx0,cx1,cx2⟩:=kx.r3
        have cx4 : ∀ dk osk,(grow (redrawn W dk) osk).cell? ⟨xb,4,none⟩=some (.int .i64 pn):=cell_regrown (kx.cell 4 rfl)
        have q0:=Bx.mk fun dk osk=>Calls.regrown_of (Hwh.out (grow (redrawn W dk) osk))
        have q1:=Bx.mk fun dk osk=>Calls.regrown_of (Hbox.out (grow (redrawn W dk) osk))
        have q2:=Bx.mk fun dk osk=>Calls.regrown_of (Hi.out (grow (redrawn W dk) osk))
        have q3:=Bx.mk fun dk osk=>Calls.regrown_of ((Hc.out (grow (redrawn W dk) osk)).mono fun e w' h=>(⟨h.1,by rw [←h.2];exact Below.refl _ _⟩:e=_∧Below (grow (redrawn W dk) osk).heap.size (grow (redrawn W dk) osk) w'))
        refine wp_region_quiet_below (by kernel_rfl) (by kernel_rfl) ?_
        repeat (first | go_big_quiet_step ((first | with_reducible exact q0.out _ _ | with_reducible exact q1.out _ _ | with_reducible exact q2.out _ _ | with_reducible exact q3.out _ _)) | quiet_step (first | with_reducible exact q0.out _ _ | with_reducible exact q1.out _ _ | with_reducible exact q2.out _ _ | with_reducible exact q3.out _ _))
        refine wpQuiet_nil ?_
        rintro _ ⟨⟨dq,osq⟩,rfl⟩
        have hb:=below_regrown W dq osq
        clear cx0 cx1 cx2 cx4 q0 q1 q2 q3
        replace kx:=kx.later hb
        replace HK:=Bx.mk (HK.out.later hb)
        clear hb
        generalize grow (redrawn W dq) osq=W1 at *
        --INNER
        have HI:Bx (WK w (fun k=>Four w.heap.size k∨k=xb) N (w.heap.size+1+1+1) (w.heap.size+1) (w.heap.size+1+1) w.heap.size (30 * j+2 * 2) (touL (cs.take j) ⟨px,py,pz,po,pn⟩ 2) (if 2=2 then cs.take j else cs.take (j+1)) W1∧Bk W1 xb #[px,py,pz,po,pn] 96):=⟨⟨by rw [if_pos rfl];exact HK.out.mono (by omega) (fun n a _=>touL_start _ _ n a),kx⟩⟩
        clear HK kx
        go_wp2_with fail
        go_loopw [14] (fun v14 wr => ∃ lv:Nat,2≤lv∧lv≤N+3∧v14 = .int .i64 lv∧Bx (WK w (fun k=>Four w.heap.size k∨k=xb) N (w.heap.size+1+1+1) (w.heap.size+1) (w.heap.size+1+1) w.heap.size (30 * j+2 * lv) (touL (cs.take j) ⟨px,py,pz,po,pn⟩ lv) (if lv=2 then cs.take j else cs.take (j+1)) wr∧Bk wr xb #[px,py,pz,po,pn] 96)) (fun v _=>N+3 - (intOf v).toNat)
        case atStart=>exact ⟨2,by omega,by omega,rfl,HI⟩
        case round =>
         clear HI
         obtain ⟨lv,h2,h3,rfl,hL⟩:=hrel
         by_cases hle:lv≤N+2
         · have hib:=inB_iff.1 HVc.out.1
           have hpw:=pow_le (show N+2≤14 by have:=HN.out;omega)
           obtain ⟨i,hi⟩ : ∃ i,lv=i+2:=⟨lv - 2,by omega⟩
           obtain ⟨Ml,hMl⟩ : ∃ Ml:Int,Ml=2 ^ lv:=⟨_,rfl⟩
           have hp:IntKind.i64.wrap ((2:Int) ^ lv)=Ml:=by rw [hMl];exact pow_wrap (by have:=HN.out;omega)
           have hml:4≤Ml∧Ml≤16384:=by
            have h1:=pow_le (show lv≤14 by have:=HN.out;omega)
            have h2:=pow_le (show i≤14 by have:=HN.out;omega)
            have h3:(2:Int) ^ (i+2)=2 ^ i * 4:=Int.pow_add 2 i 2
            rw [hMl]
            refine ⟨?_,h1.2⟩
            rw [hi,h3];omega
           have hbd:(0≤px∧px≤16384)∧(0≤py∧py≤16384)∧(0≤pz∧pz≤16384):=by
            have e:(wholeB N).hi=⟨2 ^ (N+2),2 ^ (N+2),2 ^ (N+2)⟩:=rfl
            have e2:(wholeB N).lo=⟨0,0,0⟩:=rfl
            rw [e,e2] at hib
            simp only at hib
            omega
           obtain ⟨⟨lx,ly,lz⟩,hq⟩ : ∃ q,q=lowP i ⟨px,py,pz⟩:=⟨_,rfl⟩
           have low : ∀ x:Int,0≤x→x≤16384→0≤x - x % Ml∧x - x % Ml≤16384∧bits .andNot .i64 x (Ml - 1)=x - x % Ml:=by
            intro x h0 h1
            have e1:=low1 x Ml
            have e2:=Int.mul_nonneg (show 0≤Ml by omega) (Int.ediv_nonneg h0 (show 0≤Ml by omega))
            have e3:=Int.emod_nonneg x (show Ml ≠ 0 by omega)
            exact ⟨by omega,by omega,by rw [hMl];exact i64_andNot x lv h0 (by omega) (by have:=HN.out;omega)⟩
           have ex:px - px % Ml=lx∧py - py % Ml=ly∧pz - pz % Ml=lz:=by
            unfold lowP at hq
            rw [←hi,←hMl] at hq
            injection hq with q1 q2 q3
            exact ⟨q1.symm,q2.symm,q3.symm⟩
           obtain ⟨lx0,lx1,hx⟩:=low px hbd.1.1 hbd.1.2
           obtain ⟨ly0,ly1,hy⟩:=low py hbd.2.1.1 hbd.2.1.2
           obtain ⟨lz0,lz1,hz⟩:=low pz hbd.2.2.1 hbd.2.2.2
           rw [ex.1] at lx0 lx1 hx
           rw [ex.2.1] at ly0 ly1 hy
           rw [ex.2.2] at lz0 lz1 hz
           have Hq:=Bx.mk hq
           have Hlv:=Bx.mk hi
           have t1:decide ((lv:Int)≤(N:Int)+2)=true:=by simp;omega
           obtain ⟨c0,c1,c2⟩:=hL.out.2.c3
           clear low ex hq hi hMl hib hpw hbd
           go_upto_region 13 with fail
           generalize hW:World.alloc wr _=W
           have hb:=bl1 hW
           have kc:Bk W wr.heap.size #[lx,ly,lz,(lv:Int)] 39:=bk0 hW rfl
           clear hW c0 c1 c2 t1 hp hx hy hz
           have hcl : ∀ q∈[lx,ly,lz,(lv:Int)],0≤q∧q≤16384:=by
            intro q hq
            simp only [List.mem_cons,List.not_mem_nil,or_false] at hq
            have:=HN.out
            rcases hq with rfl | rfl | rfl | rfl <;> omega
           have hcube:wr.heap.size ≠ w.heap.size+1+1:=by have:=hL.out.1.kt.lt;omega
           have htou : ∃ W',(Instr.mapUpdate 160 (.map (some (w.heap.size+1+1))) (cubeV lx ly lz (lv:Int)) (.bool true)).run Tryz.prog W = .ok () W'∧WK w (fun k=>Four w.heap.size k∨k=xb) N (w.heap.size+1+1+1) (w.heap.size+1) (w.heap.size+1+1) w.heap.size (30 * j+2 * lv+1) (touL (cs.take j) ⟨px,py,pz,po,pn⟩ (lv+1)) (if lv=2 then cs.take j else cs.take (j+1)) W'∧W'.heap.size=W.heap.size∧W.grownBy W' (some (w.heap.size+1+1)):=by
            have h:=(hL.out.1.later hb).touch (by have:=HN.out;simp only [maxLen];omega) i ⟨px,py,pz⟩
            rw [←Hq.out,show ((i:Int)+2)=(lv:Int) by rw [Hlv.out];omega] at h
            obtain ⟨W',g1,g2,g3,g4⟩:=h (fun q hq=>wf_small q (hcl q hq))
            refine ⟨W',g1,g2.mono (Nat.le_refl _) (fun n a _=>?_),g3,g4⟩
            rw [Hlv.out];exact touL_step _ ⟨px,py,pz,po,pn⟩ i n a
           obtain ⟨W2,hrun,hwk,hsz,hgr⟩:=htou
           have kx:=(hL.out.2.later hb).grown hgr (by omega)
           have kc2:=kc.grown hgr hcube
           have Kc2:=Bx.mk kc2
           have t0:=(hL.out.1.later hb).kt.cell 0 rfl
           obtain ⟨d0,d1,d2,d3⟩:=kc.c4
           have HWK:=Bx.mk hwk
           have Kx:=Bx.mk kx
           have hcbs:Bx (wr.heap.size<W.heap.size):=⟨kc.lt⟩
           clear hwk kx kc kc2 hgr hsz hL hcl
           go_upto_region 14 with fail
           clear t0 d0 d1 d2 d3 hrun hcube hb
           generalize wr.heap.size=cb at *
           by_cases hl2:lv=2
           · subst hl2
             rw [show (((2:Nat):Int))=2 from rfl] at *
             have hi0:i=0:=by have:=Hlv.out;omega
             have Hq0:Bx (⟨lx,ly,lz⟩=lowP 0 ⟨px,py,pz⟩):=⟨by rw [←hi0];exact Hq.out⟩
             go_upto_region 15 with fail
             rw [if_pos rfl] at HWK
             obtain ⟨O,hO⟩ : ∃ O:Obj,O = .cells #[px,py,pz,po,pn] 96:=⟨_,rfl⟩
             have hbO:Below W2.heap.size W2 (W2.alloc O):=(Below.refl _ _).alloc (Nat.le_refl _) _
             have hent:=(HWK.out.later hbO).entry (by have:=HN.out;simp only [maxLen];omega) ⟨px,py,pz,po,pn⟩
             simp only [Chg.at] at hent
             rw [←Hq0.out] at hent
             obtain ⟨v0,st,W5,hrunE,hmid⟩:=hent (fun q hq=>wf_small q (by
              simp only [List.mem_cons,List.not_mem_nil,or_false] at hq
              rcases hq with rfl | rfl | rfl | rfl <;> omega))
             have knew:Bk W5 W2.heap.size #[px,py,pz,po,pn] 96:=(hmid.grown.block W2.heap.size (by simp) (by
              intro e;injection e with e
              have h1:=HWK.out.bmap
              obtain ⟨fb,hM,-⟩:=h1
              have:=hM.lt;omega)).trans (by rw [hO];exact heap_alloc_new W2 _)
             have hnews:=World.news_of_block (cs:=#[px,py,pz,po,pn]) (t:=96) (fr:=(0,0)) knew
             obtain ⟨i0,hi0,hz0,hz1,hz2⟩:=info_parts (show (Tryz.prog.info? 96).map (fun i=>(i.zero,i.size,i.bytes))=some (some (.agg #[(0:Int),(0:Int),(0:Int),(0:Int),(0:Int)]),5,40) by kernel_rfl)
             obtain ⟨nl,hnl⟩ : ∃ nl,nl=(inb (cs.take j) (lowP 0 (Chg.at ⟨px,py,pz,po,pn⟩))).length:=⟨_,rfl⟩
             have hnl2:nl≤4194304:=by
              rw [hnl];unfold inb
              have h1:=List.length_filter_le (fun c:Chg=>decide (Tr.InC 0 (lowP 0 (Chg.at ⟨px,py,pz,po,pn⟩)) c.at)) (cs.take j)
              have h2:=List.length_take_le j cs
              omega
             have hown:=hmid.own
             have hbase:=hmid.bel.size
             rw [←hnl] at hown
             have Hown:=Bx.mk hown
             have Hnews:=Bx.mk hnews
             have HI0:=Bx.mk hi0
             have HZ0:=Bx.mk hz0
             have HZ1:=Bx.mk hz1
             have HZ2:=Bx.mk hz2
             have e0:=HWK.out.kb.cell 0 rfl
             obtain ⟨d0,d1,d2,d3⟩:=Kc2.out.c4
             obtain ⟨x0,x1,x2,x3,x4⟩:=Kx.out.c5
             subst hO
             have Hnl:=Bx.mk hnl
             have Hmid:=Bx.mk hmid
             have Hnl2:=Bx.mk hnl2
             clear hmid hnl hown hnews hi0 hz0 hz1 hz2 hbO knew hent hnl2
             go_wp2_with (at_builtin;refine wpList_append_own_at _ rfl _ _ 37 rfl w.heap.size 96 i0 _ 5 40 Tryz.underlying37 HI0.out HZ0.out HZ1.out HZ2.out rfl (by omega) v0 nl _ rfl Hown.out ⟨W2.heap.size,0,none⟩ 1 1 [.int .i64 px,.int .i64 py,.int .i64 pz,.int .i64 po,.int .i64 pn] rfl rfl Hnews.out (by simp [Value.oneCell']) (by have:=Hnl2.out;simp only [maxLen];omega) (by have:=Hnl2.out;omega) hbase ?_;intro v6 W6 hown6 hgr6 hnil6 hat6;obtain ⟨W7,hrunS,hwk7,hsz7,hold7⟩:=Hmid.out.push W6 v6 hgr6 (by have h:=hown6;rw [Hnl.out] at h;exact h) hat6;have Hw7:=Bx.mk (And.intro hwk7 (And.intro hsz7 hold7));clear hwk7 hsz7 hold7 hown6 hgr6 hnil6 hat6)
             have kx7:Bk W7 xb #[px,py,pz,po,pn] 96:=by
              have hl:=Kx.out.lt
              refine (Hw7.out.2.2 xb (Nat.lt_of_lt_of_le hl (by simp)) (by omega) (fun e=>Hmid.out.nav xb e (.inr rfl))).trans ((heap_alloc_old W2 _ hl).trans Kx.out)
             have HJ:Bx (WK w (fun k=>Four w.heap.size k∨k=xb) N (w.heap.size+1+1+1) (w.heap.size+1) (w.heap.size+1+1) w.heap.size (30 * j+2 * (2+1)) (touL (cs.take j) ⟨px,py,pz,po,pn⟩ (2+1)) (if 2+1=2 then cs.take j else cs.take (j+1)) W7∧Bk W7 xb #[px,py,pz,po,pn] 96):=⟨by
              rw [if_neg (by omega),take_snoc' Hed.out]
              exact ⟨Hw7.out.1.mono (by omega) (fun _ _ _=>Iff.rfl),kx7⟩⟩
             clear Hw7 kx7 Hmid hrunS Kx Kc2 HWK Hown Hnews e0 d0 d1 d2 d3 x0 x1 x2 x3 x4
             go_wp2_with fail
             go_roundw
             case rel=>exact ⟨2+1,by omega,by omega,by go_num,HJ⟩
             case measure=>simp [intOf]
           · have t2:((lv:Int) == 2)=false:=by simp;omega
             have HJ:Bx (WK w (fun k=>Four w.heap.size k∨k=xb) N (w.heap.size+1+1+1) (w.heap.size+1) (w.heap.size+1+1) w.heap.size (30 * j+2 * (lv+1)) (touL (cs.take j) ⟨px,py,pz,po,pn⟩ (lv+1)) (if lv+1=2 then cs.take j else cs.take (j+1)) W2∧Bk W2 xb #[px,py,pz,po,pn] 96):=⟨by
              have hh:=HWK.out
              rw [if_neg hl2] at hh
              rw [if_neg (by omega)]
              exact ⟨hh.mono (by omega) (fun _ _ _=>Iff.rfl),Kx.out⟩⟩
             clear HWK Kx Kc2 hl2
             go_wp2_with fail
             go_roundw
             case rel=>exact ⟨lv+1,by omega,by omega,by go_num,HJ⟩
             case measure=>simp [intOf];omega
         · obtain rfl:lv=N+3:=by omega
           have t1:decide (((N+3:Nat):Int)≤(N:Int)+2)=false:=by simp
           have HJ:Bx (WK w (Four w.heap.size) N (w.heap.size+1+1+1) (w.heap.size+1) (w.heap.size+1+1) w.heap.size (30 * (j+1)) (touT (cs.take (j+1))) (cs.take (j+1)) wr ∧ ∀ c∈cs.take (j+1),okChg N c):=⟨by
            have hh:=hL.out.1
            rw [if_neg (by omega)] at hh
            refine ⟨(hh.avoid (Av':=Four w.heap.size) (Below.refl _ _) (fun k hk=>.inl (.inl hk)) (fun k hk=>hh.lt k (.inl hk)) ⟨.inr (.inr (.inr rfl)),.inr (.inl rfl),.inr (.inr (.inl rfl)),.inl rfl⟩).mono (by omega) (fun n a hn=>?_),fun c hc=>?_⟩
            · rw [take_snoc' Hed.out];exact touL_end _ _ N n hn a
            · rw [take_snoc' Hed.out] at hc
              rcases List.mem_append.1 hc with hc | hc
              · exact HV.out c hc
              · rw [List.mem_singleton.1 hc];exact HVc.out⟩
           clear hL
           go_wp2_with fail
           go_roundw
           case rel=>exact ⟨j+1,by omega,by go_num,HJ⟩
           case measure=>simp [intOf];omega
      · rw [show decide (0≤pn∧pn≤255)=false by simpa using h2] at Hc
        have HB:Bx (¬ ∀ c∈cs,okChg N c):=⟨fun h=>h2 (h _ (List.mem_of_getElem? Hed.out)).2⟩
        clear h2
        obtain ⟨cx0,cx1,cx2⟩:=kx.r3
        have cx4 : ∀ dk osk,(grow (redrawn W dk) osk).cell? ⟨xb,4,none⟩=some (.int .i64 pn):=cell_regrown (kx.cell 4 rfl)
        have q0:=Bx.mk fun dk osk=>Calls.regrown_of (Hwh.out (grow (redrawn W dk) osk))
        have q1:=Bx.mk fun dk osk=>Calls.regrown_of (Hbox.out (grow (redrawn W dk) osk))
        have q2:=Bx.mk fun dk osk=>Calls.regrown_of (Hi.out (grow (redrawn W dk) osk))
        have q3:=Bx.mk fun dk osk=>Calls.regrown_of ((Hc.out (grow (redrawn W dk) osk)).mono fun e w' h=>(⟨h.1,by rw [←h.2];exact Below.refl _ _⟩:e=_∧Below (grow (redrawn W dk) osk).heap.size (grow (redrawn W dk) osk) w'))
        refine wp_region_quiet_below (by kernel_rfl) (by kernel_rfl) ?_
        repeat (first | go_big_quiet_step ((first | with_reducible exact q0.out _ _ | with_reducible exact q1.out _ _ | with_reducible exact q2.out _ _ | with_reducible exact q3.out _ _)) | quiet_step (first | with_reducible exact q0.out _ _ | with_reducible exact q1.out _ _ | with_reducible exact q2.out _ _ | with_reducible exact q3.out _ _))
        refine wpQuiet_nil ?_
        rintro _ ⟨⟨dq,osq⟩,rfl⟩
        have hb:=below_regrown W dq osq
        clear cx0 cx1 cx2 cx4 q0 q1 q2 q3
        replace kx:=kx.later hb
        replace HK:=Bx.mk (HK.out.later hb)
        clear hb
        generalize grow (redrawn W dq) osq=W1 at *
        go_wp2_with fail
        go_ret2
        exact ⟨fun h=>absurd h HB.out,fun _=>⟨rfl,HK.out.bel⟩⟩
    · have Hi:=Bx.mk fun W=>Hin.out px py pz W
      rw [show inB ⟨px,py,pz⟩ ⟨⟨0,0,0⟩,⟨M,M,M⟩⟩=false by rw [HM.out];exact Bool.eq_false_iff.2 h1] at Hi
      have Hc:=Bx.mk fun W=>isCell10_any pn W
      have HB:Bx (¬ ∀ c∈cs,okChg N c):=⟨fun h=>h1 (h _ (List.mem_of_getElem? Hed.out)).1⟩
      clear h1
      obtain ⟨cx0,cx1,cx2⟩:=kx.r3
      have cx4 : ∀ dk osk,(grow (redrawn W dk) osk).cell? ⟨xb,4,none⟩=some (.int .i64 pn):=cell_regrown (kx.cell 4 rfl)
      have q0:=Bx.mk fun dk osk=>Calls.regrown_of (Hwh.out (grow (redrawn W dk) osk))
      have q1:=Bx.mk fun dk osk=>Calls.regrown_of (Hbox.out (grow (redrawn W dk) osk))
      have q2:=Bx.mk fun dk osk=>Calls.regrown_of (Hi.out (grow (redrawn W dk) osk))
      have q3:=Bx.mk fun dk osk=>Calls.regrown_of ((Hc.out (grow (redrawn W dk) osk)).mono fun e w' h=>(⟨h.1,by rw [←h.2];exact Below.refl _ _⟩:e=_∧Below (grow (redrawn W dk) osk).heap.size (grow (redrawn W dk) osk) w'))
      refine wp_region_quiet_below (by kernel_rfl) (by kernel_rfl) ?_
      repeat (first | go_big_quiet_step ((first | with_reducible exact q0.out _ _ | with_reducible exact q1.out _ _ | with_reducible exact q2.out _ _ | with_reducible exact q3.out _ _)) | quiet_step (first | with_reducible exact q0.out _ _ | with_reducible exact q1.out _ _ | with_reducible exact q2.out _ _ | with_reducible exact q3.out _ _))
      refine wpQuiet_nil ?_
      rintro _ ⟨⟨dq,osq⟩,rfl⟩
      have hb:=below_regrown W dq osq
      clear cx0 cx1 cx2 cx4 q0 q1 q2 q3
      replace kx:=kx.later hb
      replace HK:=Bx.mk (HK.out.later hb)
      clear hb
      generalize grow (redrawn W dq) osq=W1 at *
      go_wp2_with fail
      go_ret2
      exact ⟨fun h=>absurd h HB.out,fun _=>⟨rfl,HK.out.bel⟩⟩
  · obtain rfl:j=cs.length:=by omega
    rw [List.take_of_length_le (Nat.le_refl _)] at hI
    have t0:decide ((cs.length:Int)<(cs.length:Int))=false:=by simp
    have HV:=Bx.mk hI.out.2
    have hq:=Bx.mk (hch.out _ _ _ _ _ _ wr hI.out.2 hI.out.1)
    clear hI
    go_wp2_with fail
    refine hq.out.mono ?_
    rintro e w' ⟨hG,i,r,rfl⟩
    have Hg:=Bx.mk hG
    clear hG
    go_wp2_with fail
    go_ret2
    exact ⟨fun _=>Hg.out,fun h=>absurd HV.out h⟩
end Go.Proofs.YtfcbajmjaifjlaaGreat
end
section
namespace Go.Proofs.YtfcbajmjaifjlaaGreat
open Go.RowKit Go.Sort Go.Maps
open Oct
theorem side_any (L:Nat) (hL:L≤14) (w:World) :
 Calls Tryz.prog 100 #[(L:Int)] w fun e w'=>e = .returned (.int .i64 ((2:Int) ^ L))∧w=w':=by
 go_enter Tryz.func100,Tryz.ntmps100
 go_wp2_with fail
 go_loop [3,4] (fun v3 v4 => ∃ k:Nat,k≤L∧v4 = .int .i64 k∧v3 = .int .i64 ((2:Int) ^ k)) (fun _ i=>L - (intOf i).toNat)
 case atStart=>exact ⟨0,Nat.zero_le _,rfl,rfl⟩
 case round =>
  obtain ⟨k,hk,rfl,rfl⟩:=hrel
  by_cases hlt:k<L
  · have t0:decide ((k:Int)<(L:Int))=true:=by simp;omega
    have hp:=(pow_le (show k≤14 by omega))
    have hp2:=(pow_le (show k+1≤14 by omega))
    have hs:(2:Int) * 2 ^ k=2 ^ (k+1):=by rw [Int.pow_succ];omega
    have hw:IntKind.i64.wrap ((2:Int) * 2 ^ k)=2 ^ (k+1):=by rw [hs];exact IntWalk.i64_in _ (by omega)
    generalize hq:(2:Int) ^ k=q at *
    generalize hr:(2:Int) ^ (k+1)=r at *
    go_wp2_with fail
    go_round
    case rel=>exact ⟨k+1,by omega,by go_num,by rw [hr]⟩
    case measure=>simp [intOf];omega
  · obtain rfl:k=L:=by omega
    have t0:decide ((k:Int)<(k:Int))=false:=by simp
    go_wp2_with fail
    go_ret
    exact ⟨rfl,rfl⟩
set_option maxRecDepth 100000 in
theorem cube9_any (px py pz:Int) (L:Nat) (hL:L≤14) (hx:0≤px∧px≤100000) (hy:0≤py∧py≤100000) (hz:0≤pz∧pz≤100000) (w:World) :
 Calls Tryz.prog 35 #[.agg #[px,py,pz],(L:Int)] w fun e w'=>e = .returned (.agg #[px,py,pz,.int .i64 (px+2 ^ L),.int .i64 (py+2 ^ L),.int .i64 (pz+2 ^ L)])∧Below w.heap.size w w':=by
 have hsd:=fun W=>side_any L hL W
 have hp:=(pow_le hL)
 generalize hm:(2:Int) ^ L=m at *
 have hsd:=Bx.mk hsd
 have t1:=IntWalk.i64_in (px+m) (by omega)
 have t2:=IntWalk.i64_in (py+m) (by omega)
 have t3:=IntWalk.i64_in (pz+m) (by omega)
 clear hp hx hy hz hm
 go_enter Tryz.func35,Tryz.ntmps35
 go_wp2_with fail
 generalize hW:World.alloc (World.alloc w _) _=W
 have hSz:=sz2 hW
 have hB:=bl2 hW
 have kp:Bk W (w.heap.size) #[px,py,pz] 23:=bk1 hW
 have kr:Bk W (w.heap.size+1) #[(0:Int),(0:Int),(0:Int),(0:Int),(0:Int),(0:Int)] 25:=bk0 hW
 clear hW
 refine (hsd.out _).mono ?_
 rintro _ _ ⟨rfl,rfl⟩
 obtain ⟨cp0,cp1,cp2⟩:=kp.c3
 obtain ⟨cr0,cr1,cr2,cr3,cr4,cr5⟩:=kr.c6
 obtain ⟨fr0,fr1,fr2,fr3,fr4,fr5⟩:=kr.f6
 go_wp2_with fail
 replace kr:=kr.put6 (.int .i64 px) (.int .i64 py) (.int .i64 pz) (.int .i64 (px+m)) (.int .i64 (py+m)) (.int .i64 (pz+m))
 clear cr0 cr1 cr2 cr3 cr4 cr5
 obtain ⟨z0,z1,z2,z3,z4,z5⟩:=kr.c6
 exact bodyPost_ret (v:=.agg #[px,py,pz,.int .i64 (px+m),.int .i64 (py+m),.int .i64 (pz+m)]) (results_cell_row rfl _ _ (w.heap.size+1) 25 #[px,py,pz,.int .i64 (px+m),.int .i64 (py+m),.int .i64 (pz+m)] (0,0) _ rfl kr Tryz.underlying25 rfl (by kernel_rfl)) rfl ⟨rfl,blw6 hB (by omega) _ _ _ _ _ _⟩
end Go.Proofs.YtfcbajmjaifjlaaGreat
end
section
namespace Go.Proofs.YtfcbajmjaifjlaaGreat
namespace Oct
namespace Tr
def pos (ch:Fin 8→Tr) (k:Nat):Nat:=2+((List.ofFn fun i=>enc (ch i)).take k).flatten.length
theorem pos_zero (ch:Fin 8→Tr):pos ch 0=2:=by simp [pos]
theorem pos_succ (ch:Fin 8→Tr) {k:Nat} (hk:k<8):pos ch (k+1)=pos ch k+(enc (ch ⟨k,hk⟩)).length:=by
 unfold pos
 rw [List.take_succ_eq_append_getElem (by rw [List.length_ofFn];exact hk),List.flatten_append,List.length_append,List.getElem_ofFn,List.flatten_cons,List.flatten_nil,List.append_nil]
 omega
theorem pos_all (d:Nat) (ch:Fin 8→Tr):pos ch 8=(enc (.node d ch)).length:=by
 unfold pos
 rw [List.take_of_length_le (by simp),enc]
 simp only [List.length_cons]
 omega
theorem enc_node (d:Nat) (ch:Fin 8→Tr):enc (.node d ch)=110::(d:Int)::(List.ofFn fun i=>enc (ch i)).flatten:=by rw [enc]
theorem pos_le (d:Nat) (ch:Fin 8→Tr) {k:Nat} (hk:k≤8):pos ch k≤(enc (.node d ch)).length:=by
 rw [←pos_all d ch]
 unfold pos
 have : ∀ m,k≤m→((List.ofFn fun i=>enc (ch i)).take k).flatten.length≤((List.ofFn fun i=>enc (ch i)).take m).flatten.length:=by
  intro m hm
  obtain ⟨j,rfl⟩ : ∃ j,m=k+j:=⟨m - k,by omega⟩
  rw [List.take_add,List.flatten_append,List.length_append];omega
 have:=this 8 hk
 omega
theorem enc_byt : ∀ t:Tr,WF t → ∀ x∈enc t,0≤x∧x≤255:=by
 intro t
 induction t with
 | uni c=>intro h x hx;rw [enc] at hx;simp at hx;have h:0≤c∧c≤255:=h;rcases hx with rfl | rfl <;> omega
 | brick l => intro h x hx; rw [enc] at hx; have h : l.length = 64 ∧ ∀ x ∈ l, 0 ≤ x ∧ x ≤ 255 := h; rcases List.mem_cons.1 hx with rfl | hx
              · omega
              · exact h.2 x hx
 | node d ch ih =>
   intro h x hx
   have h:d≤255 ∧ ∀ i,WF (ch i):=h
   rw [enc_node] at hx
   rcases List.mem_cons.1 hx with rfl | hx
   · omega
   · rcases List.mem_cons.1 hx with rfl | hx
     · omega
     · obtain ⟨l,hl,hx⟩:=List.mem_flatten.1 hx
       obtain ⟨i,rfl⟩:=List.mem_ofFn.1 hl
       exact ih i (h.2 i) x hx
def small:Nat→Tr→Prop
 | _,.uni _=>True
 | _,.brick _=>True
 | 0,.node _ _=>False
 | n+1,.node _ ch => ∀ i,small n (ch i)
theorem enc_small : ∀ (n:Nat) (t:Tr),WF t→small n t→(enc t).length≤73 * 8 ^ n - 8:=by
 intro n
 induction n with
 | zero =>
   intro t h hs
   cases t with
   | uni c=>simp [enc]
   | brick l=>have h:l.length=64 ∧ ∀ x∈l,0≤x∧x≤255:=h;simp [enc,h.1]
   | node d ch=>exact absurd hs (by simp [small])
 | succ n ih =>
   intro t h hs
   have hp:1≤8 ^ n:=Nat.pow_pos (by decide)
   cases t with
   | uni c=>rw [Nat.pow_succ];simp [enc];omega
   | brick l=>have h:l.length=64 ∧ ∀ x∈l,0≤x∧x≤255:=h;rw [Nat.pow_succ];simp [enc,h.1];omega
   | node d ch =>
     have h:d≤255 ∧ ∀ i,WF (ch i):=h
     have hk : ∀ i,(enc (ch i)).length≤73 * 8 ^ n - 8:=fun i=>ih (ch i) (h.2 i) (hs i)
     have key : ∀ k,k≤8→pos ch k≤2+k * (73 * 8 ^ n - 8):=by
      intro k
      induction k with
      | zero=>intro _;rw [pos_zero];omega
      | succ k ihk =>
        intro hk8
        rw [pos_succ ch (by omega),Nat.succ_mul]
        have h1:=ihk (by omega)
        have h2:=hk ⟨k,by omega⟩
        omega
     have:=key 8 (Nat.le_refl _)
     rw [pos_all d ch] at this
     rw [Nat.pow_succ]
     omega
end Tr
end Oct
end Go.Proofs.YtfcbajmjaifjlaaGreat
end
