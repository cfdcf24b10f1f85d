/- Pl3: joined by program, for one claim. -/
import Derived.Test.YtajhkncolbgkbaaM20
import Derived.BigQuiet
import Derived.Deep.CutRange
set_option linter.unusedVariables false
set_option linter.unusedSimpArgs false
section
namespace Go.Proofs.Ytajhkncolbgkbaa
open Go.RowKit Go.Sort Go.Maps
set_option maxRecDepth 100000 in
set_option maxHeartbeats 4000000 in
theorem rot_no (w:World) (n:Int) (hn : -9223372036854775808≤n∧n≤9223372036854775807) (h18:n<18∨24<n) (a:Option Addr) (c nl:Nat) (page bit:Int) :
 Calls Try.prog 5 #[.int .i64 n,.slice a nl c,.int .i64 page,.int .i64 bit] w fun e w'=>e = .returned (.bool true)∧Below w.heap.size w w':=by
 have hsan:=Bx.mk sanity14_true
 have hst:=Bx.mk (start_no w n hn h18)
 have t:(decide (n<18)=true)∨(decide (n<18)=false∧decide (n > 24)=true):=by
  rcases h18 with h | h
  · exact .inl (by simpa using h)
  · exact .inr ⟨by simp;omega,by simpa using h⟩
 clear h18
 rcases t with t1 | ⟨t1,t2⟩
 all_goals
  go_enter Try.func5,Try.ntmps5
  go_upto_region 2 with (go_at_call 23;refine hst.out.mono ?_;rintro _ w1 ⟨rfl,hb1⟩)
  generalize hW:World.alloc w1 _=W
  have HB:Bx (Below w.heap.size w W):=⟨by rw [←hW];exact hb1.alloc hb1.size _⟩
  clear hW hb1 hst
  go_wp2_with fail
  refine (hsan.out _).mono ?_
  rintro _ w2 ⟨rfl,hb2⟩
  have HB2:=Bx.mk (HB.out.trans (hb2.mono HB.out.size))
  clear hb2
  go_wp2_with fail
  go_ret
  exact ⟨rfl,HB2.out⟩
set_option maxRecDepth 100000 in
set_option maxHeartbeats 4000000 in
theorem rot_yes (w:World) (N:Nat) (hN:18≤N∧N≤24) (a:Option Addr) (c:Nat) (ops:List OpB) (hlen:ops.length≤9223372036854775807) (hops:OpsB w a ops) (page:Int) (hpage : -9223372036854775808≤page∧page≤9223372036854775807) (bit:Int) :
 Calls Try.prog 5 #[.int .i64 (N:Int),.slice a ops.length c,.int .i64 page,.int .i64 bit] w fun e w'=>e = .returned (.bool true)∧Below w.heap.size w w':=by
 have hsan:=Bx.mk sanity14_true
 have HOPS:=Bx.mk fun W (hb:Below w.heap.size w W)=>hops.later hb
 obtain ⟨nl,hnl⟩ : ∃ nl,nl=ops.length:=⟨_,rfl⟩
 rw [←hnl] at hlen ⊢
 have HNL:=Bx.mk hnl
 have HN:=Bx.mk hN
 have hst:=Bx.mk (start_yes w N hN.1 hN.2)
 have t1:decide ((N:Int)<18)=false:=by simp;omega
 have t1b:decide (N<18)=false:=by simp;omega
 have t2:decide ((N:Int) > 24)=false:=by simp;omega
 have t2b:decide (N > 24)=false:=by simp;omega
 have t2c:decide (24<N)=false:=by simp;omega
 clear hops hnl hN
 go_enter Try.func5,Try.ntmps5
 go_upto_region 2 with (go_at_call 23;refine hst.out.mono ?_;rintro _ w1 ⟨dp,g,mb,pp,q,qq,bv,rfl,hst1,hb1⟩)
 generalize hW:World.alloc w1 _=W
 have hb2:=bl1 hW
 have hk:Bk W w1.heap.size #[.pointer (some ⟨dp,0,none⟩),.pointer (some ⟨pp,0,none⟩),.pointer (some ⟨q,0,none⟩),.pointer (some ⟨qq,0,none⟩)] 51:=bk0 hW rfl
 obtain ⟨wb,hwb⟩ : ∃ wb,wb=w1.heap.size:=⟨_,rfl⟩
 have hpl:=hst1.ps.lt
 have hdl:=hst1.dk.lt
 rw [mk_q] at hst1
 have HI0:Bx (RotI w dp g mb N pp wb N q qq bv 0 (0+20) (List.replicate N (zerosP 128)) W):=⟨⟨hst1.later hb2,PInv.start (by have:=HN.out;omega),hb1.trans (hb2.mono hb1.size),by rw [hwb];exact hk,by omega,fun h=>by rcases h with h | h | h <;> omega⟩⟩
 rw [←hwb]
 clear hW hb2 hk hwb hpl hdl hst1 hb1 hst
 by_cases h6:6<nl
 · have t6:decide ((nl:Int) > 6)=true:=by simp;omega
   have t6b:decide (nl > 6)=true:=by simpa using h6
   have t6c:decide (6<nl)=true:=by simpa using h6
   have HB:Bx (Below w.heap.size w W):=⟨HI0.out.bel⟩
   clear HI0 h6
   go_wp2_with fail
   refine (hsan.out _).mono ?_
   rintro _ w2 ⟨rfl,hb2⟩
   have HB2:=Bx.mk (HB.out.trans (hb2.mono HB.out.size))
   clear hb2
   go_wp2_with fail
   go_ret
   exact ⟨rfl,HB2.out⟩
 · have t6:decide ((nl:Int) > 6)=false:=by simp;omega
   have t6b:decide (nl > 6)=false:=by simpa using h6
   have t6c:decide (6<nl)=false:=by simpa using h6
   have H6:Bx (nl≤6):=⟨by omega⟩
   clear h6
   go_upto_region 5 with fail
   clear t1 t1b t2 t2b t2c t6 t6b t6c
   go_loopw [11] (fun v11 wr => ∃ (k t m:Nat) (im:List (List Int)),k≤nl∧v11 = .int .i64 k∧Bx (t≤k∧m≤20+40 * k)∧Bx (RotI w dp g mb N pp wb N q qq bv t m im wr)) (fun i _=>nl - (intOf i).toNat)
   case atStart=>exact ⟨0,0,20,_,Nat.zero_le _,rfl,⟨Nat.le_refl _,by omega⟩,HI0⟩
   case round =>
    clear HI0
    obtain ⟨k,t,m,im,hk,rfl,HTM,HI⟩:=hrel
    by_cases hlt:k<nl
    · have t0:decide ((k:Int)<(nl:Int))=true:=by simp;omega
      have t0b:decide (k<nl)=true:=by simpa using hlt
      have Hlt:=Bx.mk hlt
      obtain ⟨s,hs⟩ : ∃ s,ops[k]? = some s:=⟨_,List.getElem?_eq_getElem (by rw [←HNL.out];exact hlt)⟩
      have HS:=Bx.mk fun W' (hb:Below wr.heap.size wr W')=>HOPS.out W' (HI.out.bel.trans (hb.mono HI.out.bel.size)) k s hs
      obtain ⟨ab,ao,rfl,-,-⟩:=HS.out wr (Below.refl _ _)
      have HC:Bx (∀ W',Below wr.heap.size wr W'→W'.rangeAt ab (ao+k * 5) s.cells):=⟨fun W' hb=>by
       obtain ⟨b,o,e,h1,h2⟩:=HS.out W' hb
       simp only [Option.some.injEq,Addr.mk.injEq,and_true] at e
       obtain ⟨rfl,rfl⟩:=e
       exact h1⟩
      have HKW:=Bx.mk fun W' (hb:Below wr.heap.size wr W')=>HI.out.wbk.later hb
      obtain ⟨sa,hsa⟩ : ∃ sa,sa=s.agg:=⟨_,rfl⟩
      have HBT:Bx (∀ W',Below wr.heap.size wr W'→Calls Try.prog 25 #[sa] W' fun e w' => ∃ v,e = .returned v∧Below W'.heap.size W' w'∧BatR v w'):=⟨fun W' hb=>by
       obtain ⟨b,o,e,h1,h2⟩:=HS.out W' hb
       rw [hsa];exact batch_R W' s h2⟩
      have HLD:Bx (∀ W',Below wr.heap.size wr W'→(loadVar 58 ⟨ab,ao+k * 5,none⟩).run Try.prog W' = .ok sa W'):=⟨fun W' hb=>by
       rw [hsa]
       exact run_loadVar_mid W' ab (ao+k * 5) 58 s.cells _ (HC.out W' hb) Try.underlying58 rfl (by kernel_rfl)⟩
      have b1:(0:Int)≤(k:Int):=by omega
      have b2:(k:Int)<(nl:Int):=by omega
      clear hlt hs hsa HS HC
      go_upto_region 7 with fail
      clear t0 t0b
      refine wp_region_relT 7 (fun ii v w'=>match ii with
       | 0=>v = .pointer (some ⟨wb,1,none⟩)
       | 1=>v = .pointer (some ⟨pp,0,none⟩)
       | 2=>v = .slice (some ⟨ab,ao,none⟩) nl c
       | 3=>v = .int .i64 (k:Int)
       | 4=>v = .pointer (some ⟨ab,ao+k * 5,none⟩)
       | 5=>v=sa
       | _=>BatR v w') (by kernel_rfl) (by kernel_rfl) 175 (by kernel_rfl) (by rfl) ?_ ?_ ?_
      · intro ii hi v u1 u2 hb h
        match ii,hi with
        | 0,_=>exact h
        | 1,_=>exact h
        | 2,_=>exact h
        | 3,_=>exact h
        | 4,_=>exact h
        | 5,_=>exact h
        | 6,_=>exact h.later hb
      · intro ii o hi ho ρ wx hb hc1 hc2 hc3 hk
        match ii,hi with
        | 0, _ =>
          obtain rfl:=Option.some.inj ho
          have g0:ρ (.tmp 9) = .pointer (some ⟨wb,0,none⟩):=hk 9 (by simp [Op.operands,Call.operands])
          clear hk hb HKW HLD HBT HI HOPS
          go_simp
          exact Below.refl _ _
        | 1, _ =>
          obtain rfl:=Option.some.inj ho
          have g0:ρ (.tmp 54) = .pointer (some ⟨wb,1,none⟩):=hk 54 (by simp [Op.operands,Call.operands])
          have z1:=(HKW.out wx hb).cell 1 rfl
          clear hk hb HKW HLD HBT HI HOPS
          go_simp
          exact Below.refl _ _
        | 2, _ =>
          obtain rfl:=Option.some.inj ho
          have g0:ρ (.tmp 1) = .slice (some ⟨ab,ao,none⟩) nl c:=hk 1 (by simp [Op.operands,Call.operands])
          clear hk hb HKW HLD HBT HI HOPS
          go_simp
          exact Below.refl _ _
        | 3, _ =>
          obtain rfl:=Option.some.inj ho
          have g0:ρ (.tmp 11) = .int .i64 (k:Int):=hk 11 (by simp [Op.operands,Call.operands])
          clear hk hb HKW HLD HBT HI HOPS
          go_simp
          exact Below.refl _ _
        | 4, _ =>
          obtain rfl:=Option.some.inj ho
          have g0:ρ (.tmp 56) = .slice (some ⟨ab,ao,none⟩) nl c:=hk 56 (by simp [Op.operands,Call.operands])
          have g1:ρ (.tmp 57) = .int .i64 (k:Int):=hk 57 (by simp [Op.operands,Call.operands])
          clear hk hb HKW HLD HBT HI HOPS
          go_simp
          exact Below.refl _ _
        | 5, _ =>
          obtain rfl:=Option.some.inj ho
          have g0:ρ (.tmp 58) = .pointer (some ⟨ab,ao+k * 5,none⟩):=hk 58 (by simp [Op.operands,Call.operands])
          have hr:=HLD.out wx hb
          unfold execOp
          simp only [Instr.loadAt,Instr.sureAddr,Sem.run_bind,Sem.run_pure,Result.andThen_ok,g0,hr]
          exact ⟨Below.refl _ _,rfl⟩
        | 6, _ =>
          obtain rfl:=Option.some.inj ho
          have g0:ρ (.tmp 59)=sa:=hk 59 (by simp [Op.operands,Call.operands])
          have h4:=HBT.out wx hb
          have H4:=Bx.mk h4
          clear h4
          clear hk hb HKW HLD HBT HI HOPS
          go_simp
          all_goals exact H4.out
      · intro vs w6 hlen hb hR
        match vs,hlen with
        | [v0, v1, v2, v3, v4, v5, v6], _ =>
          have r0:v0 = .pointer (some ⟨wb,1,none⟩):=hR 0 v0 rfl
          have r1:v1 = .pointer (some ⟨pp,0,none⟩):=hR 1 v1 rfl
          have r2:v2 = .slice (some ⟨ab,ao,none⟩) nl c:=hR 2 v2 rfl
          have r3:v3 = .int .i64 (k:Int):=hR 3 v3 rfl
          have r4:v4 = .pointer (some ⟨ab,ao+k * 5,none⟩):=hR 4 v4 rfl
          have r5:v5=sa:=hR 5 v5 rfl
          have r6:BatR v6 w6:=hR 6 v6 rfl
          clear hR
          subst r0 r1 r2 r3 r4 r5
          obtain ⟨la,lc,l,rfl,hlp,hl20,hlx⟩:=r6
          have hwr:=Bx.mk ((HI.out.later hb).write (by have:=HTM.out;have:=H6.out;have:=Hlt.out;omega) (by have:=HTM.out;have:=H6.out;have:=Hlt.out;omega) la lc l hlp hl20 hlx)
          generalize l.length=ll at *
          clear hb hlp hl20 hlx HKW HLD HBT HI
          simp only [puts,List.take_succ_cons,List.take_zero,List.drop_succ_cons,List.drop_zero,List.map_cons,List.map_nil,List.zip_cons_cons,List.zip_nil_right,List.foldl_cons,List.foldl_nil]
          simp only [Act.put,List.setIfInBounds_toArray,List.set_cons_succ,List.set_cons_zero]
          go_wp2_with fail
          refine hwr.out.mono ?_
          rintro _ w7 ⟨er,t7,im7,rfl,ht7,hI7⟩
          have HI7:=Bx.mk hI7
          have HT7:Bx (t7≤k+1∧m+40≤20+40 * (k+1)):=⟨by have:=HTM.out;omega⟩
          clear hI7 ht7 hwr
          go_wp2_with fail
          go_roundw
          case rel=>exact ⟨k+1,t7,m+40,im7,by have:=Hlt.out;omega,by go_num,HT7,HI7⟩
          case measure=>have:=Hlt.out;simp [intOf];omega
    · obtain rfl:k=nl:=by omega
      have t0:decide ((k:Int)<(k:Int))=false:=by simp
      have t0b:decide (k<k)=false:=by simp
      have HTT:Bx (t≤6∧m≤260):=⟨by have:=HTM.out;have:=H6.out;omega⟩
      clear HTM HOPS
      obtain ⟨nn,hnn⟩ : ∃ nn,nn=N - 17:=⟨_,rfl⟩
      have HNN:Bx (nn+17=N∧nn≤24):=⟨by have:=HN.out;omega⟩
      have hnn1:0<nn:=by have:=HN.out;omega
      have hnn24:nn≤24:=by have:=HN.out;omega
      have hokd:=q_ok HI.out.st.dk.ok
      have HOK:=Bx.mk hokd
      have hgood : ∀ i,i<nn→(readP (qDk im) false (i:Int)).2=0:=fun i hi=>by
       have hil:17+i<im.length:=by rw [HI.out.inv.len];have:=HNN.out;omega
       have hg:=(HI.out.inv.all _ (List.getElem_mem hil)).1
       have r0:=read_calm (calm_q im) (i:=i) (by rw [q_len];exact hil) (by rw [now_q];exact List.getElem?_eq_getElem hil)
       rw [r0,if_pos hg]
      have hct:=Bx.mk (contents_any wr pp dp t g mb N m bv false (qDk im) HI.out.st.ps HI.out.st.dk nn (by rw [q_len,HI.out.inv.len];have:=HNN.out;omega) hgood)
      obtain ⟨z0,z1⟩:=HI.out.wbk.c2
      clear hokd hgood hnn
      go_upto_region 9 with (go_at_call 26;refine hct.out.mono ?_;rintro _ w3 ⟨v3,rfl,hown3,hb3⟩;obtain ⟨og,oc,rfl,hslv3,hog3,-⟩:=hown3.form1 (by rw [strs_length,conP_len];exact hnn1))
      have HI3:=Bx.mk (HI.out.later hb3)
      have HO3:=Bx.mk hslv3
      have HOG:Bx (¬In3 dp g mb og):=⟨fun h=>by have h9:=HI.out.st.dk.lt;rcases h with h | h | h <;> omega⟩
      have hol:(strs (conP (qDk im) false nn)).length=nn:=by rw [strs_length,conP_len]
      rw [hol]
      clear z0 z1 hct hb3 hown3 hslv3 hog3 hol HI t0 t0b
      have z0:=HI3.out.wbk.cell 0 rfl
      have hro:=Bx.mk (rot_any w3 dp g mb N m _ HI3.out.st.dk page bit)
      rcases rot_q HI3.out.inv HOK.out page bit with ⟨hr1,hr2⟩ | ⟨pn,z,rfl,hpn,hz,hzl,hzb,hr⟩
      · have n1:(((qDk im).rot page bit).2 != 0)=true:=by simpa using hr1
        have n2:(((qDk im).rot page bit).2 == 0)=false:=by simpa using hr1
        clear hr1 hr2
        generalize ((qDk im).rot page bit).2=er at *
        generalize ((qDk im).rot page bit).1=dr at *
        go_upto_region 12 with (go_at_call 27;refine hro.out.mono ?_;rintro _ w4 ⟨rfl,hd4,hc4⟩)
        have HB4:=Bx.mk (HI3.out.bel.trans (HI3.out.st.below hc4 HI3.out.bel.size))
        clear hd4 hc4 hro HI3 z0
        go_wp2_with fail
        refine (hsan.out _).mono ?_
        rintro _ w5 ⟨rfl,hb5⟩
        have HB5:=Bx.mk (HB4.out.trans (hb5.mono HB4.out.size))
        clear hb5
        go_wp2_with fail
        go_ret
        exact ⟨rfl,HB5.out⟩
      · have hrd:=rot_reads HI3.out.inv HOK.out (by have:=HTT.out;omega) (by have:=HN.out;omega) hpn hz ⟨hzl,hzb⟩
        obtain ⟨d',hrun,hdl,hrd,hbad⟩:=hrd
        rw [hr] at hro
        dsimp only at hro
        have hil:(qDk (im.set pn z)).p.length=N:=by rw [q_len,List.length_set,HI3.out.inv.len]
        have HIL:=Bx.mk hil
        have HRUN:=Bx.mk hrun
        have HRD:=Bx.mk hrd
        have HBAD:=Bx.mk hbad
        have HPN:=Bx.mk hpn
        have hoff:(qDk (im.set pn z)).off=false:=rfl
        have HNOF:=Bx.mk hoff
        clear hr hz hzl hzb hrun hrd hbad hpn hil hdl hoff HOK
        generalize qDk (im.set pn z)=d1 at *
        go_upto_region 13 with (go_at_call 27;refine hro.out.mono ?_;rintro _ w4 ⟨rfl,hd4,hc4⟩)
        have HS4:Bx (St w.heap.size w4 dp g mb N pp m d1 t bv false):=⟨HI3.out.st.disk hd4 hc4⟩
        have HB4:=Bx.mk (HI3.out.bel.trans (HI3.out.st.below hc4 HI3.out.bel.size))
        have HK4:=Bx.mk (HI3.out.wbk.chg hc4 HI3.out.ap.2)
        have HAP:=Bx.mk HI3.out.ap
        have HLO:Bx (∀ k,In3 dp g mb k→w.heap.size≤k):=⟨fun k hk=>HI3.out.st.lo k (.inr hk)⟩
        have HO4:=Bx.mk (HO3.out.chg14 hc4 HOG.out)
        have hop:=St.open_ HS4.out.dk HLO.out (by rw [HIL.out];have:=HN.out;omega) HNOF.out (by have:=HTT.out;omega) HRUN.out HB4.out.size
        rw [HIL.out] at hop
        replace hop:=Bx.mk hop
        clear hd4 hc4 hro HI3 z0 HNOF HRUN HIL HO3
        have z0:=HK4.out.cell 0 rfl
        generalize badP (imgR (nowI d1)) (N - 17)=l at *
        generalize mxP (nowI d1)=u at *
        go_upto_region 14 with (go_at_call 17;refine hop.out.mono ?_;rintro _ w5 ⟨po,bo,rfl,hst5,hbad5,-,hc5⟩)
        obtain ⟨ba,bc,rfl,hbs5⟩:=hbad5.form
        have HJ5:Bx (RotJ w dp g mb N pp wb q qq bv t po u (m+20) (.slice ba (ints64 l).length bc) d' (some ⟨og,0,none⟩) ba (strs (conP (qDk im) false nn)) l w5):=⟨⟨hst5.dk,Bk.chg HS4.out.ps hc5 HS4.out.ne,HS4.out.ne,HS4.out.lo⟩,hst5,HO4.out.chg14 hc5 HOG.out,hbs5,HB4.out.trans (hc5.below HB4.out.size fun k hk hS=>by have:=HLO.out k hS;omega),HK4.out.chg hc5 HAP.out.2⟩
        clear hst5 hbad5 hbs5 hc5 hop HS4 HB4 HK4 HO4 HAP HLO
        go_upto_region 17 with fail
        go_loopw [8,16] (fun v8 v16 wr => ∃ k:Nat,k≤nn∧v8 = .bool false∧v16 = .int .i64 k∧Bx (RotJ w dp g mb N pp wb q qq bv t po u (m+20) (.slice ba (ints64 l).length bc) d' (some ⟨og,0,none⟩) ba (strs (conP (qDk im) false nn)) l wr)) (fun _ i _=>nn - (intOf i).toNat)
        case atStart=>exact ⟨0,Nat.zero_le _,rfl,rfl,HJ5⟩
        case round =>
         clear HJ5
         obtain ⟨k,hk,rfl,rfl,HJ⟩:=hrel
         by_cases hlt:k<nn
         · have t0:decide ((k:Int)<(nn:Int))=true:=by simp;omega
           have t0b:decide (k<nn)=true:=by simpa using hlt
           have b1:(0:Int)≤(k:Int):=by omega
           have b2:(k:Int)<(nn:Int):=by omega
           obtain ⟨s,hs0,hs⟩:=HRD.out k (by have:=HNN.out;omega)
           have hold:=old_at (qDk im) false hlt hs0
           have HCO:Bx (∀ W',Below wr.heap.size wr W'→W'.cell? ⟨og,k,none⟩=some (.string (strOfNums s))):=⟨fun W' hb=>by
            obtain ⟨b,off,e,hc⟩:=HJ.out.old k _ hold
            simp only [Option.some.injEq,Addr.mk.injEq,and_true] at e
            obtain ⟨rfl,rfl⟩:=e
            rw [Nat.zero_add] at hc
            exact cell_later hb hc⟩
           have Hlt:=Bx.mk hlt
           have z1:=HJ.out.wbk.cell 1 rfl
           have hS : ∀ S:ByteArray,(S.toList == S.toList)=true:=fun S=>by simp
           clear hlt hold hs0
           rcases hs with hs | ⟨hs,hpk⟩
           · have hr1:=Bx.mk (HJ.out.s1.read (k:Int) (by omega) hs)
             have hr2:=Bx.mk fun W' (hb:Below wr.heap.size wr W')=>(HJ.out.s2.later hb).read (k:Int) (by omega) hs
             have hSS:=hS (strOfNums s)
             clear hs hS
             generalize strOfNums s=S at *
             go_upto_region 20 with (go_at_call 21;refine hr1.out.mono ?_;rintro _ w6 ⟨rfl,hb6⟩)
             have hr3:=Bx.mk (hr2.out w6 hb6)
             have HB6:=Bx.mk hb6
             clear hb6 hr1 hr2 z1
             go_upto_region 21 with (go_at_call 21;refine hr3.out.mono ?_;rintro _ w7 ⟨rfl,hb7⟩)
             have hb67:=HB6.out.trans (hb7.mono HB6.out.size)
             have z2:=HCO.out w7 hb67
             have HJ7:=Bx.mk (HJ.out.later hb67)
             clear hb7 HB6 hr3 hb67 HJ HCO
             go_wp2_with fail
             go_roundw
             case rel=>exact ⟨k+1,by have:=Hlt.out;omega,rfl,by go_num,HJ7⟩
             case measure=>have:=Hlt.out;simp [intOf];omega
           · have hr1:=Bx.mk (HJ.out.s1.read (k:Int) (by omega) hs)
             have hr2:=Bx.mk fun W' (hb:Below wr.heap.size wr W')=>(HJ.out.s2.later hb).read (k:Int) (by omega) hs
             have e17:IntKind.i64.wrap (17+(k:Int))=(pn:Int):=by rw [IntWalk.i64_in _ (by omega)];omega
             clear hs hS hpk
             generalize strOfNums []=E at *
             go_upto_region 20 with (go_at_call 21;refine hr1.out.mono ?_;rintro _ w6 ⟨rfl,hb6⟩)
             have hr3:=Bx.mk (hr2.out w6 hb6)
             have HB6:=Bx.mk hb6
             clear hb6 hr1 hr2 z1
             go_upto_region 21 with (go_at_call 21;refine hr3.out.mono ?_;rintro _ w7 ⟨rfl,hb7⟩)
             have hb67:=HB6.out.trans (hb7.mono HB6.out.size)
             have HJ7:=Bx.mk (HJ.out.later hb67)
             clear hb7 HB6 hr3 hb67 HJ HCO
             go_wp2_with fail
             go_roundw
             case rel=>exact ⟨k+1,by have:=Hlt.out;omega,rfl,by go_num,HJ7⟩
             case measure=>have:=Hlt.out;simp [intOf];omega
         · obtain rfl:k=nn:=by omega
           have t0:decide ((k:Int)<(k:Int))=false:=by simp
           have t0b:decide (k<k)=false:=by simp
           have hps:=HJ.out.s2.ps
           have hsl:=HJ.out.bad
           have hl1000:l.length≤1000:=by rcases HBAD.out with h | ⟨h,_⟩ <;> (rw [h];simp)
           rw [ints64_len] at hps
           have hpb:=Bx.mk (pbad_any wr po dp u ba bc l false hps hsl hl1000)
           have HB9:=Bx.mk HJ.out.bel
           clear hps hsl hl1000 HJ
           go_upto_region 26 with (go_at_call 20;refine hpb.out.mono ?_;rintro _ w8 ⟨v8,rfl,hown8,hb8⟩;obtain ⟨a8,c8,rfl,hs8⟩:=hown8.form)
           have HB8:=Bx.mk (HB9.out.trans (hb8.mono HB9.out.size))
           have HS8:=Bx.mk hs8
           clear hb8 hpb hown8 hs8 t0 t0b HB9
           rcases HBAD.out with h | ⟨h,h17⟩
           · subst h
             rw [show (ints64 ([]:List Nat)).length=0 by rfl]
             go_wp2_with fail
             refine (hsan.out _).mono ?_
             rintro _ w9 ⟨rfl,hb9⟩
             have HB10:=Bx.mk (HB8.out.trans (hb9.mono HB8.out.size))
             clear hb9
             go_wp2_with fail
             go_ret
             exact ⟨rfl,HB10.out⟩
           · subst h
             rw [show (ints64 [pn - 17]).length=1 by rfl]
             obtain ⟨b8,o8,rfl,hc8⟩:=HS8.out 0 ((pn - 17:Nat):Int) (by rfl)
             have HC8:=Bx.mk hc8
             have e18:IntKind.i64.wrap ((pn:Int) - 17)=((pn - 17:Nat):Int):=by rw [IntWalk.i64_in _ (by omega)];omega
             generalize pn - 17=px at *
             clear hc8
             go_wp2_with fail
             refine (hsan.out _).mono ?_
             rintro _ w9 ⟨rfl,hb9⟩
             have c9:=cell_later hb9 HC8.out
             rw [Nat.add_zero] at c9
             have HB10:=Bx.mk (HB8.out.trans (hb9.mono HB8.out.size))
             clear hb9
             go_wp2_with fail
             go_ret
             exact ⟨rfl,HB10.out⟩
theorem pages_rot_true (w:World) (n:Int) (hn : -9223372036854775808≤n∧n≤9223372036854775807) (a:Option Addr) (c:Nat) (ops:List OpB) (hlen:ops.length≤9223372036854775807) (hops:OpsB w a ops) (page:Int) (hpage : -9223372036854775808≤page∧page≤9223372036854775807) (bit:Int) (_hbit : -9223372036854775808≤bit∧bit≤9223372036854775807) :
 Calls Try.prog 5 #[.int .i64 n,.slice a ops.length c,.int .i64 page,.int .i64 bit] w fun e w'=>e = .returned (.bool true)∧Below w.heap.size w w':=by
 by_cases h18:n<18∨24<n
 · exact rot_no w n hn h18 a c ops.length page bit
 · obtain ⟨N,rfl⟩:=Int.eq_ofNat_of_zero_le (by omega:0≤n)
   exact rot_yes w N (by omega) a c ops hlen hops page hpage bit
end Go.Proofs.Ytajhkncolbgkbaa
end
