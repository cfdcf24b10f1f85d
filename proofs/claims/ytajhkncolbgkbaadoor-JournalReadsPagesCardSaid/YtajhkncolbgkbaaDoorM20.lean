/- Jwr: joined by program, for one claim. -/
import Derived.Test.YtajhkncolbgkbaaDoorM19
set_option linter.unusedVariables false
set_option linter.unusedSimpArgs false
section
namespace Go.Proofs.YtajhkncolbgkbaaDoor
open Go.RowKit Go.Sort Go.Maps
attribute [local go_sem] Oper.semAt_some
def JwPost (nn:Nat) (B jp pp dp g mb cap h bk fr m t:Nat) (s:List Int) (rv bv:Value) (cnt:Nat) (im:List (List Int)) (w:World) (e:Ending) (w':World):Prop :=
 e = .returned (.int .i64 0) ∧ ∃ done t' m' im', DoneJ (nn + 17) t im done t' im' ∧ (∀ x, x ∈ done ↔ x = (0, headP bk s.length cnt) ∨ x ∈ chgJ h bk s fr) ∧ done.length ≤ h + 1 ∧ m' ≤ m + 40 * done.length ∧
   St B w' dp g mb cap pp m' (qDk im') t' bv false∧JS w' jp pp h bk s rv false∧Chg (JW jp pp dp g mb) w w'
set_option maxRecDepth 100000 in
set_option maxHeartbeats 4000000 in
theorem jwrite_any (w:World) (jp pp h bank bk fr nn:Nat) (s0 s:List Int) (rv:Value) (B dp g mb cap m t:Nat) (bv:Value) (im:List (List Int)) (hj:JS w jp pp h bank s0 rv false) (hst:St B w dp g mb cap pp m (qDk im) t bv false) (hinv:PInv (nn+17) t im)
 (hne:jp ≠ pp ∧ ¬In3 dp g mb jp) (hh:h=(nn - 1) / 2∧1≤h∧nn≤200) (hbk:bk≤1) (hsb:Byts s) (hsl:s.length≤h * 116) (hfr:fr≤s.length) (hm:m+5000<1000000) (ht:t+200<1073741824) (ra:Option Addr) (cnt rc:Nat) (hcnt:cnt≤100000) :
 Calls Tryd.prog 34 #[.pointer (some ⟨jp,0,none⟩),.int .i64 (bk:Int),.string (strOfNums s),.slice ra cnt rc,.int .i64 (fr:Int)] w (JwPost nn B jp pp dp g mb cap h bk fr m t s (.slice ra cnt rc) bv cnt im w):=by
 have hh1000:h≤1000:=by omega
 have HIN:=Bx.mk (And.intro hj (And.intro hst (And.intro hinv hne)))
 have HH:=Bx.mk hh
 have HAR:=Bx.mk (And.intro hbk (And.intro hsb (And.intro hsl hfr)))
 have HMT:=Bx.mk (And.intro hm ht)
 have Hcnt:=Bx.mk hcnt
 have HJW:Bx (∀ k,JW jp pp dp g mb k→k<w.heap.size):=⟨fun k hk=>by
  have h3:=hst.dk.lt
  rcases hk with rfl | rfl | rfl | rfl | rfl
  · exact Bk.lt hj
  · exact Bk.lt hst.ps
  · exact h3.1
  · exact h3.2.1
  · exact h3.2.2⟩
 clear hj hst hinv hne hh hbk hsb hsl hfr hm ht hcnt
 refine (callsIn_wide (n:=5)).1 ?_
 refine callsIn_of_wp_marks Tryd.func34 rfl trivial ?_ rfl
 refine (wpIn_wide (n:=5)).2 ?_
 simp only [Tryd.ntmps34,List.size_toArray,List.length_cons,List.length_nil,Nat.reduceAdd,Nat.reduceSub,Array.replicate_succ,Array.replicate_zero,List.push_toArray,List.append_toArray,List.nil_append,List.cons_append]
 go_upto_region 3 with fail
 generalize hW0:World.alloc (World.alloc (World.alloc (World.alloc w _) _) _) _=W0
 have hb0:Below w.heap.size w W0:=by rw [←hW0];exact ((((Below.refl _ _).alloc (Nat.le_refl _) _).alloc (by simp) _).alloc (by simp;omega) _).alloc (by simp;omega) _
 have hsz0:W0.heap.size=w.heap.size+4:=by rw [←hW0];simp
 have k5:Bk W0 w.heap.size #[.pointer (some ⟨jp,0,none⟩)] 25:=by rw [←hW0];exact blk_old (blk_old (blk_old (blk_new _ _ _ (by simp))))
 have k10:Bk W0 (w.heap.size+1) #[.int .i64 0] 36:=bk2 hW0
 have k11:Bk W0 (w.heap.size+1+1) #[.func (.func 60) #[] #[.pointer (some ⟨w.heap.size,0,none⟩)]] 57:=bk1 hW0
 have k12:Bk W0 (w.heap.size+1+1+1) #[.slice none 0 0] 51:=bk0 hW0
 clear hW0
 obtain ⟨wb,hwb⟩ : ∃ wb,wb=w.heap.size+1+1+1:=⟨_,rfl⟩
 obtain ⟨pb,hpb⟩ : ∃ pb,pb=w.heap.size+1+1:=⟨_,rfl⟩
 obtain ⟨rb,hrb⟩ : ∃ rb,rb=w.heap.size+1:=⟨_,rfl⟩
 obtain ⟨jb,hjb⟩ : ∃ jb,jb=w.heap.size:=⟨_,rfl⟩
 rw [←hwb] at k12 ⊢
 rw [←hpb] at k11 ⊢
 rw [←hrb] at k10 ⊢
 rw [←hjb] at k5 k11 ⊢
 have HN:Bx (jb=w.heap.size∧rb=w.heap.size+1∧pb=w.heap.size+2∧wb=w.heap.size+3∧W0.heap.size=w.heap.size+4):=⟨hjb,hrb,by omega,by omega,hsz0⟩
 have c5:=k5.cell 0 rfl
 have K5:=Bx.mk k5
 have K10:=Bx.mk k10
 have K11:=Bx.mk k11
 have K12:=Bx.mk k12
 have HB0:=Bx.mk hb0
 clear hwb hpb hrb hjb hsz0 k5 k10 k11 k12 hb0
 go_wp2_with (go_at_call 61;refine (jchanged_any _ jp bk fr (strOfNums s)).mono ?_;rintro _ W1 ⟨rfl,hb1,hsz1,kj,kb,ks,kf⟩)
 obtain ⟨fb,hfb⟩ : ∃ fb,fb=W0.heap.size+1+1+1:=⟨_,rfl⟩
 obtain ⟨sb,hsb⟩ : ∃ sb,sb=W0.heap.size+1+1:=⟨_,rfl⟩
 obtain ⟨bb,hbb⟩ : ∃ bb,bb=W0.heap.size+1:=⟨_,rfl⟩
 obtain ⟨jc,hjc⟩ : ∃ jc,jc=W0.heap.size:=⟨_,rfl⟩
 rw [←hfb] at kf ⊢
 rw [←hsb] at ks ⊢
 rw [←hbb] at kb ⊢
 rw [←hjc] at kj ⊢
 have k5:=K5.out.later hb1
 have k10:=K10.out.later hb1
 have k11:=K11.out.later hb1
 have k12:=K12.out.later hb1
 have hn:=HN.out
 have hbw:Below w.heap.size w W1:=HB0.out.trans (hb1.mono HB0.out.size)
 have hA:WrA W1.heap.size jp pp dp g mb wb:=⟨fun k hk=>by have:=HJW.out k hk;omega,by omega,fun hk=>by have:=HJW.out _ hk;omega,HIN.out.2.2.2⟩
 have hjs1:JS W1 jp pp h bank s0 rv false:=HIN.out.1.later hbw
 have hseq:=chg_stops fb sb jc bb jp h bk fr s (WrS W1.heap.size jp pp dp g mb wb) (by
  refine ⟨?_,?_,?_,?_⟩ <;> (intro hS;rcases hS with hS | hS | hS;omega;(have:=HJW.out _ hS;omega);omega)) hh1000 HAR.out.2.2.1 HAR.out.1 HAR.out.2.2.2 (5 - 1) W1 kf ks kj kb (Bk.cell hjs1 1 rfl)
 have hkb : ∀ (W:World) (l:Nat) (o o':Obj),W1.heap.size≤l→W.heap[l]? = some o→o.isCells=false→o.isWalk=false→KpJ (WrS W1.heap.size jp pp dp g mb wb) jp (.int .i64 (h:Int)) W (W.putObj l o'):=fun W l o o' hl _ _ _=>by
  have hg:=grownBy_putObj' W l o'
  refine ⟨⟨hg.os,hg.tape,hg.output,hg.size,fun k hk hnS=>hg.block k hk fun e=>?_⟩,fun hc=>?_⟩
  · obtain rfl:=Option.some.inj e
    exact hnS (.inr (.inr hl))
  · have hlt:=World.block_lt_of_cell? W _ hc
    rw [World.cell?_of_block (hg.block _ hlt fun e=>by
     injection e with e
     have:=hA.jw jp (.inl rfl)
     simp only at e
     omega)]
    exact hc
 have h0:WrL W1 (nn+17) B dp g mb cap jp pp h bank wb t m s0 rv bv im (chgJ h bk s fr) [] W1:=⟨Chg.refl _ _,[],[],t,m,im,_,⟨rfl,by simp,HIN.out.2.2.1,by simp,fun x hx=>(by cases hx),hjs1,HIN.out.2.1.later hbw,fun _=>DoneJ.start HIN.out.2.2.1,by simp,k12,World.ownsRow_nil _ _ _ _⟩⟩
 have HA:=Bx.mk hA
 replace K5:=Bx.mk k5
 replace K10:=Bx.mk k10
 replace K11:=Bx.mk k11
 have HBW:=Bx.mk hbw
 have HSZ:Bx (W1.heap.size=w.heap.size+8):=⟨by omega⟩
 have HCL:Bx ((chgJ h bk s fr).length≤h):=⟨by rw [chgJ_len];unfold pagesFor;have:=HAR.out.2.2.1;omega⟩
 clear kf ks kj kb k5 k10 k11 k12 K12 hbw HB0 hjs1 hb1 hsz1 hfb hsb hbb hjc hn c5
 refine (wpIn_wide (n:=5)).1 ?_
 refine wpIn_rangeFunc_ownH rfl (by decide) (gf:=82) (lb:=#[.pointer (some ⟨fb,0,none⟩),.pointer (some ⟨sb,0,none⟩),.pointer (some ⟨jc,0,none⟩),.pointer (some ⟨bb,0,none⟩)]) rfl trivial (enters_of Tryd.func82 (by kernel_rfl) rfl)
  hseq (fun h h'=>h.trans h') hkb (Below.refl _ _) (fun _=>rfl)
  (fun (pre:List { x // x∈chgJ h bk s fr }) W=>WrL W1 (nn+17) B dp g mb cap jp pp h bank wb t m s0 rv bv im (chgJ h bk s fr) (pre.map (·.1)) W)
  (fun _ pre _=>¬pre.map (·.1) <+: chgJ h bk s fr)
  (WrL.own W1 (nn+17) B dp g mb cap jp pp h bank wb t m s0 rv bv im (chgJ h bk s fr) hA (fun (pre:List { x // x∈chgJ h bk s fr })=>pre.map (·.1)))
  (fun _ _ _ _ _ hs _ _=>hs)
  h0
  (fun x a' W => ∃ b,W1.heap.size≤b∧a'={ tmps:=#[.pointer (some ⟨jp,0,none⟩),.int .i64 (bk:Int),.string (strOfNums s),.slice ra cnt rc,.int .i64 (fr:Int),.pointer (some ⟨jb,0,none⟩),undef,undef,undef,undef,.pointer (some ⟨rb,0,none⟩),.pointer (some ⟨pb,0,none⟩),.pointer (some ⟨wb,0,none⟩),.pointer (some ⟨b,0,none⟩),undef,undef,undef,.func (.func 60) #[] #[.pointer (some ⟨jb,0,none⟩)],.pointer (some ⟨jp,0,none⟩),.int .i64 (bk:Int),.string (strOfNums s),.int .i64 (fr:Int),.func (.func 82) #[] #[.pointer (some ⟨fb,0,none⟩),.pointer (some ⟨sb,0,none⟩),.pointer (some ⟨jc,0,none⟩),.pointer (some ⟨bb,0,none⟩)],.agg #[.int .i64 (x.1.1:Int),.string (strOfNums x.1.2)],undef,undef,undef,undef,undef,undef,undef,undef,undef,undef,undef,undef,undef,undef,undef,undef,undef,undef,undef,undef,undef,undef,undef,undef,undef,undef,undef,undef,undef,undef,undef,undef,undef,undef,undef,undef,undef,undef,undef,undef,undef,undef,undef,undef,undef,undef,undef,undef,undef,undef,undef],defers:=[] }∧Bk W b #[.int .i64 (x.1.1:Int),.string (strOfNums x.1.2)] 93)
  (fun x a'=>fun _ X Y row hs hg hr=>by
   obtain ⟨b,h1,h2,h3⟩:=hs
   exact ⟨b,h1,h2,ownFrom_bkP b (fun _:Unit=>#[.int .i64 (x.1.1:Int),.string (strOfNums x.1.2)]) _ () X Y row h3 hg hr⟩)
  ?assign ?body ?done ?stop
 case assign =>
  rintro l pre x W K hI hK
  have hbW:Below W.heap.size W (W.alloc (.cells #[.int .i64 (x.1.1:Int),.string (strOfNums x.1.2)] 93)):=(Below.refl _ _).alloc (Nat.le_refl _) _
  have HK:=Bx.mk (hK { tmps:=#[.pointer (some ⟨jp,0,none⟩),.int .i64 (bk:Int),.string (strOfNums s),.slice ra cnt rc,.int .i64 (fr:Int),.pointer (some ⟨jb,0,none⟩),undef,undef,undef,undef,.pointer (some ⟨rb,0,none⟩),.pointer (some ⟨pb,0,none⟩),.pointer (some ⟨wb,0,none⟩),.pointer (some ⟨W.heap.size,0,none⟩),undef,undef,undef,.func (.func 60) #[] #[.pointer (some ⟨jb,0,none⟩)],.pointer (some ⟨jp,0,none⟩),.int .i64 (bk:Int),.string (strOfNums s),.int .i64 (fr:Int),.func (.func 82) #[] #[.pointer (some ⟨fb,0,none⟩),.pointer (some ⟨sb,0,none⟩),.pointer (some ⟨jc,0,none⟩),.pointer (some ⟨bb,0,none⟩)],.agg #[.int .i64 (x.1.1:Int),.string (strOfNums x.1.2)],undef,undef,undef,undef,undef,undef,undef,undef,undef,undef,undef,undef,undef,undef,undef,undef,undef,undef,undef,undef,undef,undef,undef,undef,undef,undef,undef,undef,undef,undef,undef,undef,undef,undef,undef,undef,undef,undef,undef,undef,undef,undef,undef,undef,undef,undef,undef,undef,undef,undef,undef],defers:=[] } (W.alloc (.cells #[.int .i64 (x.1.1:Int),.string (strOfNums x.1.2)] 93)) (keepsFrom_chg (Chg.ofBelow hbW (fun _=>False)) fun _ _ _ h=>h.elim) (KpJ.later hbW) ⟨hI.chg.later hbW hI.chg.size,by
   obtain ⟨done,wait,t',m',im',v,hx⟩:=hI.ex
   exact ⟨done,wait,t',m',im',v,hx.later hbW⟩⟩ ⟨W.heap.size,hI.chg.size,rfl,Bk.new _ _ _⟩)
  clear hK hkb h0 hbW hseq
  gi_wp2
  exact HK.out
 case body =>
  rintro l pre ⟨x,hx⟩ a' W hl hr hI ⟨b,hbl,rfl,hbk⟩ hlt
  have HP:=Bx.mk (show (pre++[(⟨x,hx⟩:{ x // x∈chgJ h bk s fr })]).map (·.1)=pre.map (·.1)++[x] by simp)
  have HPX:=Bx.mk (show pre.map (·.1)++[x] <+: chgJ h bk s fr→pre.map (·.1) <+: chgJ h bk s fr from fun h=>(List.prefix_append _ _).trans h)
  generalize pre++[(⟨x,hx⟩:{ x // x∈chgJ h bk s fr })]=pre' at *
  have Hpl:=Bx.mk (show (pre.map (·.1)).length<h by rw [List.length_map];have:=HCL.out;omega)
  generalize pre.map (·.1)=pp1 at *
  have HI:=Bx.mk hI
  have HL:=Bx.mk hl
  have HKB:=Bx.mk hbk
  have HBL:=Bx.mk hbl
  have hk5:=Bx.mk (K5.out.chg hI.chg fun hS=>by have:=HN.out;have:=HSZ.out;rcases hS with hS | hS | hS;omega;(have:=HJW.out _ hS;omega);omega)
  have hk11:=Bx.mk (K11.out.chg hI.chg fun hS=>by have:=HN.out;have:=HSZ.out;rcases hS with hS | hS | hS;omega;(have:=HJW.out _ hS;omega);omega)
  obtain ⟨done,wait,t',m',im',v,hX⟩:=hI.ex
  have HX:=Bx.mk hX
  obtain ⟨i0,hi0,hz0,hz1,hz2⟩:=info_parts (show (Tryd.prog.info? 93).map (fun i=>(i.zero,i.size,i.bytes))=some (some (.agg #[.int .i64 0,.string ByteArray.empty]),2,24) by kernel_rfl)
  have HINF:=Bx.mk (And.intro hi0 (And.intro hz0 (And.intro hz1 hz2)))
  have HMEM:=Bx.mk hx
  have hlen15:=hX.few
  obtain ⟨a0,c0,rfl,hsrc,_⟩:=hX.src
  have HSRC:=Bx.mk hsrc
  have HWL:Bx (done.length+wait.length<h):=⟨by have:=Hpl.out;rw [hX.split,List.length_append] at this;exact this⟩
  have Hlen:=Bx.mk hlen15
  clear hX hI hl hbk hbl hkb h0 hseq hr hi0 hz0 hz1 hz2 hsrc hlt hA
  by_cases h15:wait.length=15
  · -- a batch goes out
    have HT:Bx (t'+1<1073741824∧m'+40<1000000):=⟨by have:=HX.out.cnt;have:=HX.out.room;have:=HMT.out;have:=HH.out;have:=HWL.out;omega⟩
    have H15:=Bx.mk h15
    have cw:W.cell? ⟨wb,0,none⟩=some (.slice a0 15 c0):=by have:=HX.out.bk.cell 0 rfl;rw [h15] at this;exact this
    have cp:=hk11.out.cell 0 rfl
    have hjw : ¬JW jp pp dp g mb jb:=fun hS=>by have:=HJW.out _ hS;have:=HN.out;omega
    by_cases hs15:(wait.map (·.1)).Pairwise (· < ·)
    · have hbat:BatchOk (nn+17) wait:=by
       have hm : ∀ y∈wait,y∈chgJ h bk s fr:=fun y hy=>HX.out.mem y (by rw [HX.out.split];exact List.mem_append_right _ hy)
       refine ⟨by rw [H15.out];decide,by rw [H15.out];decide,fun y hy=>?_,fun y hy=>?_,hs15⟩
       · exact chgJ_low HH.out HAR.out.1 HAR.out.2.2.1 (hm y hy)
       · exact chgJ_data HAR.out.2.1 (hm y hy)
      have hput:=Bx.mk (jput_any W (nn+17) jb jp pp h bank s0 rv B dp g mb cap m' t' bv im' HX.out.js hk5.out HX.out.st HX.out.inv HA.out.ne hjw HT.out.2 (by have:=HT.out.1;omega) a0 c0 wait hbat HSRC.out)
      rw [H15.out] at hput
      have hap:Bx (pp1 <+: chgJ h bk s fr → ∀ y∈done,∀ z∈wait,z.1 ≠ y.1):=⟨fun hp=>by
       obtain ⟨q,hq⟩:=hp
       rw [HX.out.split] at hq
       exact chgJ_apart (h:=h) (bank:=bk) (fr:=fr) (s:=s) (a:=done) (b:=wait) (c:=q) hq.symm⟩
      have HBAT:=Bx.mk hbat
      clear hbat hs15 hjw
      gi_upto_region 6 with fail
      gi_upto_region 7 with ((try refine ⟨trivial,?_⟩);gi_at_call 60;refine (CallsIn.inRound l (callsIn_wide.2 hput.out)).mono ?_;rintro _ w2 ⟨rfl,hst2,hj2,hc2⟩)
      obtain ⟨hx2,hk2⟩:=HX.out.put HA.out HBAT.out (by have:=HT.out.1;omega) hap.out hst2 hj2 hc2
      have f2:=hk2.frozen 0
      have c2:=hk2.cell 0 rfl
      have hcc:Chg (fun k=>k=wb∨JW jp pp dp g mb k) W (w2.setCell ⟨wb,0,none⟩ (.slice none 0 0)):=(hc2.mono fun k _ hk=>.inr hk).setCell (.inl (.inl rfl)) _
      have HC2:=Bx.mk hcc
      clear cw cp hput hst2 hj2 hc2 hk2 hcc
      gi_upto_region 10 with fail
      generalize World.setCell w2 _ _=wx at *
      have HX0:=HX
      replace HX:=Bx.mk hx2
      have HXL:Bx (([]:List (Nat × List Int)).length<15):=⟨by decide⟩
      have HXS:Bx (W.heap.size≤wx.heap.size∧W1.heap.size≤W.heap.size):=⟨HC2.out.size,HI.out.chg.size⟩
      have hkb2:Bk wx b _ 93:=HKB.out.chg HC2.out (fun hS=>by have:=HBL.out;have:=HN.out;have:=HSZ.out;rcases hS with hS | hS;omega;(have:=HJW.out _ hS;omega))
      have cw:=HX.out.bk.cell 0 rfl
      obtain ⟨cb0,cb1⟩:=hkb2.c2
      obtain ⟨hi0,hz0,hz1,hz2⟩:=HINF.out
      clear c2 f2 hx2 hkb2
      gi_wp2_with (first
    | (gi_at_builtin
       refine wpListIn_append_own _ rfl _ _ 51 rfl W1.heap.size 93 i0 (.agg #[.int .i64 0,.string ByteArray.empty]) 2 24 Tryd.underlying51 hi0 hz0 hz1 hz2 rfl (by omega) (.slice none 0 0) 0 _ rfl (ownsRow_below HX.out.own ((Below.refl _ _).alloc (Nat.le_refl _) _)) ⟨wx.heap.size,0,none⟩ 1 1 [.int .i64 (x.1:Int),.string (strOfNums x.2)] rfl rfl (WrR.src2 (Bk.new wx #[.int .i64 (x.1:Int),.string (strOfNums x.2)] 93)) (by simp only [List.mem_cons,List.not_mem_nil,or_false,forall_eq_or_imp,forall_eq];exact ⟨rfl,rfl⟩) (by simp only [maxLen];omega) (by omega) (by simp;have:=HXS.out;omega) ?_
       intro v' w6 g1 g2 _
       obtain ⟨hx7,hc7,k6⟩:=HX.out.add HA.out HXL.out x HMEM.out g1 g2
       obtain ⟨va,vc,rfl,_,_,_⟩:=ownsRow_form g1
       have f6:=k6.frozen 0
       have c6:=k6.cell 0 rfl))
      change KeepsFrom _ _ _∧KpJ _ _ _ _ _∧WrL _ _ _ _ _ _ _ _ _ _ _ _ _ _ _ _ _ _ _ (pre'.map (·.1)) _
      rw [HP.out]
      refine HI.out.round HA.out HX0.out.own ?_ ⟨_,_,_,_,_,_,hx7⟩
      exact (HC2.out.mono (T:=fun k=>k=wb∨JW jp pp dp g mb k∨(Value.slice a0 wait.length c0).ownBlock=some k) fun k _ hk=>hk.elim .inl fun h=>.inr (.inl h)).trans (hc7.mono (T:=fun k=>k=wb) fun k _ hk=>hk.elim id fun h=>by cases h) fun k _ hk=>.inl hk
    · have hno:=Bx.mk (jput_no W (nn+17) jb jp pp h bank s0 rv B dp g mb cap m' t' bv im' HX.out.js hk5.out HX.out.st HX.out.inv a0 c0 wait hlen15 (fun y hy=>by
       have hm:y∈chgJ h bk s fr:=HX.out.mem y (by rw [HX.out.split];exact List.mem_append_right _ hy)
       refine ⟨?_,chgJ_data HAR.out.2.1 hm⟩
       have:=chgJ_low HH.out HAR.out.1 HAR.out.2.2.1 hm
       have:=HH.out.2.2
       omega) hs15 HSRC.out)
      rw [H15.out] at hno
      have HNP:Bx (¬pp1++[x] <+: chgJ h bk s fr):=⟨fun hp=>hs15 (by
       obtain ⟨q,hq⟩:=HPX.out hp
       rw [HX.out.split] at hq
       have:=chgJ_sorted h bk fr s
       rw [←hq,List.map_append,List.map_append] at this
       exact (List.pairwise_append.1 (List.pairwise_append.1 this).1).2.1)⟩
      have kr:=K10.out.chg HI.out.chg (fun hS=>by have:=HN.out;have:=HSZ.out;rcases hS with hS | hS | hS;omega;(have:=HJW.out _ hS;omega);omega)
      have KR:=Bx.mk kr
      clear hs15 hjw kr
      gi_upto_region 6 with fail
      gi_upto_region 7 with ((try refine ⟨trivial,?_⟩);gi_at_call 60;refine (CallsIn.inRound l (callsIn_wide.2 hno.out)).mono ?_;rintro _ w2 ⟨er,her,rfl,hc2⟩)
      have n1:(er != 0)=true:=by simpa using her
      have n2:(er == 0)=false:=by simpa using her
      have kr2:=KR.out.chg hc2 (fun hS=>by have:=HN.out;have:=HJW.out jp (.inl rfl);omega)
      have r0:=kr2.cell 0 rfl
      have rf:=kr2.frozen 0
      have HC3:Bx (Chg (fun k=>k=jp∨k=rb) W (w2.setCell ⟨rb,0,none⟩ (.int .i64 er))):=⟨(hc2.mono fun k _ hk=>.inl hk).setCell (.inl (.inr rfl)) _⟩
      clear hc2 cw cp hno kr2 her
      gi_wp2
      refine ⟨keepsFrom_chg HC3.out fun k o hB hk ho hcells=>?_,?_⟩
      · exfalso
        have:=HN.out;have:=HSZ.out;have:=HJW.out jp (.inl rfl)
        rcases hk with rfl | rfl <;> omega
      · show ¬(pre'.map (·.1)) <+: _
        rw [HP.out];exact HNP.out
  · -- the page waits
    obtain ⟨wl,hwl⟩ : ∃ wl,wl=wait.length:=⟨_,rfl⟩
    have cw:W.cell? ⟨wb,0,none⟩=some (.slice a0 wl c0):=by have:=HX.out.bk.cell 0 rfl;rw [←hwl] at this;exact this
    have HWLe:=Bx.mk hwl
    have hwl15:wl<15:=by omega
    have t15:((wl:Int) == 15)=false:=by simp;omega
    have t15b:decide ((wl:Int)=15)=false:=by simp;omega
    have t15c:decide (wl=15)=false:=by simp;omega
    have HXL:Bx (wait.length<15):=⟨by omega⟩
    have HXS:Bx (W1.heap.size≤W.heap.size):=⟨HI.out.chg.size⟩
    obtain ⟨cb0,cb1⟩:=HKB.out.c2
    have hown:=HX.out.own
    rw [←hwl] at hown
    have HOWN:=Bx.mk hown
    obtain ⟨hi0,hz0,hz1,hz2⟩:=HINF.out
    clear hwl h15 hlen15 hown
    gi_upto_region 10 with fail
    clear t15 t15b t15c
    gi_wp2_with (first
  | (gi_at_builtin
     refine wpListIn_append_own _ rfl _ _ 51 rfl W1.heap.size 93 i0 (.agg #[.int .i64 0,.string ByteArray.empty]) 2 24 Tryd.underlying51 hi0 hz0 hz1 hz2 rfl (by omega) (.slice a0 wl c0) wl _ rfl (ownsRow_below HOWN.out ((Below.refl _ _).alloc (Nat.le_refl _) _)) ⟨W.heap.size,0,none⟩ 1 1 [.int .i64 (x.1:Int),.string (strOfNums x.2)] rfl rfl (WrR.src2 (Bk.new W #[.int .i64 (x.1:Int),.string (strOfNums x.2)] 93)) (by simp only [List.mem_cons,List.not_mem_nil,or_false,forall_eq_or_imp,forall_eq];exact ⟨rfl,rfl⟩) (by simp only [maxLen];omega) (by omega) (by simp;have:=HXS.out;omega) ?_
     intro v' w6 g1 g2 _
     obtain ⟨hx7,hc7,k6⟩:=HX.out.add HA.out HXL.out x HMEM.out (o:=.cells #[.int .i64 (x.1:Int),.string (strOfNums x.2)] 93) (by rw [←HWLe.out];exact g1) (by rw [←HWLe.out];exact g2)
     obtain ⟨va,vc,rfl,_,_,_⟩:=ownsRow_form g1
     have f6:=k6.frozen 0
     have c6:=k6.cell 0 rfl))
    change KeepsFrom _ _ _∧KpJ _ _ _ _ _∧WrL _ _ _ _ _ _ _ _ _ _ _ _ _ _ _ _ _ _ _ (pre'.map (·.1)) _
    rw [HP.out]
    refine HI.out.round HA.out HX.out.own ?_ ⟨_,_,_,_,_,_,hx7⟩
    exact hc7.mono fun k _ hk=>hk.elim .inl fun h=>.inr (.inr h)
 case done =>
  rintro D ys W hD hxs hI hK
  have hxs2:ys.map (·.1)=chgJ h bk s fr:=hxs
  have hI2:WrL W1 (nn+17) B dp g mb cap jp pp h bank wb t m s0 rv bv im (chgJ h bk s fr) (ys.map (·.1)) W:=hI
  rw [hxs2] at hI2
  clear hI
  obtain ⟨hchg,done,wait,t',m',im',v,hX⟩:=hI2
  have hlen15:=hX.few
  have HSP:=Bx.mk hX.split
  have hdn:=hX.dn (List.prefix_refl _)
  have HDN:=Bx.mk hdn
  have HX:=Bx.mk hX
  obtain ⟨a0,c0,rfl,hsrc,_⟩:=hX.src
  obtain ⟨wl,hwl⟩ : ∃ wl,wl=wait.length:=⟨_,rfl⟩
  have HWL:=Bx.mk hwl
  have hk11:=Bx.mk (K11.out.chg hchg fun hS=>by have:=HN.out;have:=HSZ.out;rcases hS with hS | hS | hS;omega;(have:=HJW.out _ hS;omega);omega)
  have hk5:=Bx.mk (K5.out.chg hchg fun hS=>by have:=HN.out;have:=HSZ.out;rcases hS with hS | hS | hS;omega;(have:=HJW.out _ hS;omega);omega)
  have hk10:=Bx.mk (K10.out.chg hchg fun hS=>by have:=HN.out;have:=HSZ.out;rcases hS with hS | hS | hS;omega;(have:=HJW.out _ hS;omega);omega)
  have HSRC:=Bx.mk hsrc
  have HCH:=Bx.mk hchg
  have HKD:=Bx.mk hK
  have HDD:=Bx.mk hD
  have HXS:=Bx.mk hxs
  -- the head
  obtain ⟨sl,hsle⟩ : ∃ sl,sl=s.length:=⟨_,rfl⟩
  have hszs:(strOfNums s).size=sl:=by rw [strOfNums_size,hsle]
  have hb1:=Bx.mk fun W=>jbytes_any bk 1 (by decide) W
  have hb2:=Bx.mk fun W=>jbytes_any sl 4 (by decide) W
  have hb3:=Bx.mk fun W=>jbytes_any cnt 4 (by decide) W
  have z1:(strOfNums (bytesP bk 1)).size=1:=by rw [strOfNums_size,bytes_len]
  have z2:(strOfNums (bytesP sl 4)).size=4:=by rw [strOfNums_size,bytes_len]
  have z3:(strOfNums (bytesP cnt 4)).size=4:=by rw [strOfNums_size,bytes_len]
  have ha1:strOfNums (bytesP bk 1)++strOfNums (bytesP sl 4)=strOfNums (bytesP bk 1++bytesP sl 4):=str_append _ _
  have z4:(strOfNums (bytesP bk 1++bytesP sl 4)).size=5:=by rw [strOfNums_size,List.length_append,bytes_len,bytes_len]
  have ha2:strOfNums (bytesP bk 1++bytesP sl 4)++strOfNums (bytesP cnt 4)=strOfNums (bytesP bk 1++bytesP sl 4++bytesP cnt 4):=str_append _ _
  have z5:(strOfNums (bytesP bk 1++bytesP sl 4++bytesP cnt 4)).size=9:=by rw [strOfNums_size,List.length_append,List.length_append,bytes_len,bytes_len,bytes_len]
  have hrep:=Bx.mk fun W'=>rep_any 107 (by decide) W'
  have z6:(strOfNums (zerosP 107)).size=107:=by rw [strOfNums_size];simp [zerosP]
  have ha3:strOfNums (bytesP bk 1++bytesP sl 4++bytesP cnt 4)++strOfNums (zerosP 107)=strOfNums (headP bk sl cnt):=by rw [str_append];rfl
  have hsl5:sl≤200000:=by have:=HAR.out.2.2.1;have:=HH.out;omega
  have HSL:=Bx.mk hsle
  have hcnt:=Hcnt.out
  generalize strOfNums (bytesP bk 1)=T1 at *
  generalize strOfNums (bytesP sl 4)=T2 at *
  generalize strOfNums (bytesP cnt 4)=T3 at *
  generalize strOfNums (bytesP bk 1++bytesP sl 4)=T4 at *
  generalize strOfNums (bytesP bk 1++bytesP sl 4++bytesP cnt 4)=T5 at *
  generalize strOfNums (zerosP 107)=T6 at *
  obtain ⟨hdl,hhd⟩ : ∃ hdl,hdl=headP bk sl cnt:=⟨_,rfl⟩
  rw [←hhd] at ha3
  have HHD:=Bx.mk hhd
  clear hK hxs hxs2 hD hdn hX hsrc hchg hkb h0 hseq hA hwl hsle hhd hlen15
  go_wp2_with fail
  refine (hb1.out _).mono ?_
  rintro _ w1 ⟨rfl,hw1⟩
  go_wp2_with fail
  refine (hb2.out _).mono ?_
  rintro _ w2 ⟨rfl,hw2⟩
  go_wp2_with fail
  refine (hb3.out _).mono ?_
  rintro _ w3 ⟨rfl,hw3⟩
  go_upto_region 13 with (go_at_call 62;refine (hrep.out _).mono ?_;rintro _ w4 ⟨rfl,hw4⟩)
  have hb4:Below W.heap.size W w4:=((hw1.trans (hw2.mono hw1.size)).trans (hw3.mono (hw1.trans (hw2.mono hw1.size)).size)).trans (hw4.mono ((hw1.trans (hw2.mono hw1.size)).trans (hw3.mono (hw1.trans (hw2.mono hw1.size)).size)).size)
  have HB4:=Bx.mk hb4
  have hX4:=HX.out.later hb4
  have HX4:=Bx.mk hX4
  have HSRC4:=Bx.mk (HSRC.out.below hb4)
  have K114:=hk11.out.later hb4
  have KW4:Bk w4 wb #[.slice a0 wl c0] 51:=by rw [HWL.out];exact hX4.bk
  clear hw1 hw2 hw3 hw4 hb4 hX4 hb1 hb2 hb3 hrep z1 z2 z3 z4 z5 z6 ha1 ha2 ha3 hszs
  have HK114:=Bx.mk K114
  have HKW4:=Bx.mk KW4
  clear K114 KW4
  refine wp_region_relT 6 (fun ii v w'=>match ii with
   | 0=>v = .func (.func 60) #[] #[.pointer (some ⟨jb,0,none⟩)]
   | 1=>v = .string (strOfNums hdl)
   | 2=>v = .agg #[.int .i64 0,.string (strOfNums hdl)]
   | 3=>WrR 0 hdl v w'
   | 4=>v = .slice a0 wl c0
   | _=>FrR (wInts ((0,hdl)::wait)) v w') (by kernel_rfl) (by kernel_rfl) 75 (by kernel_rfl) (by rfl) ?_ ?_ ?_
  · intro ii hi v u1 u2 hb h
    match ii,hi with
    | 0,_=>exact h
    | 1,_=>exact h
    | 2,_=>exact h
    | 3,_=>exact h.later hb
    | 4,_=>exact h
    | 5,_=>exact h.later hb
  · intro ii o hi ho ρ wx hb hc1 hc2 hc3 hk
    match ii,hi with
    | 0, _ =>
      obtain rfl:=Option.some.inj ho
      have g0:ρ (.tmp 11) = .pointer (some ⟨pb,0,none⟩):=hk 11 (by simp [Op.operands,Call.operands])
      have k1:=HK114.out.later hb
      have z0:=k1.cell 0 rfl
      clear hk hb HX4 HSRC4 HK114 HKW4 HB4 HX hk11 hk5 hk10
      go_simp
      exact Below.refl _ _
    | 1, _ =>
      obtain rfl:=Option.some.inj ho
      have g0:ρ (.tmp 15) = .string (strOfNums hdl):=hk 15 (by simp [Op.operands,Call.operands])
      clear hk hb HX4 HSRC4 HK114 HKW4 HB4 HX hk11 hk5 hk10
      go_simp
      exact Below.refl _ _
    | 2, _ =>
      obtain rfl:=Option.some.inj ho
      have g0:ρ (.tmp 54) = .string (strOfNums hdl):=hk 54 (by simp [Op.operands,Call.operands])
      clear hk hb HX4 HSRC4 HK114 HKW4 HB4 HX hk11 hk5 hk10
      go_simp
      exact Below.refl _ _
    | 3, _ =>
      obtain rfl:=Option.some.inj ho
      have g0:ρ (.tmp 55) = .agg #[.int .i64 0,.string (strOfNums hdl)]:=hk 55 (by simp [Op.operands,Call.operands])
      have Hn2:Bx (WrR 0 hdl (.slice (some ⟨wx.heap.size,0,none⟩) 1 1) (wx.alloc (.cells #[.int .i64 0,.string (strOfNums hdl)] 93))):=⟨_,rfl,Bk.new _ _ _⟩
      clear hk hb HX4 HSRC4 HK114 HKW4 HB4 HX hk11 hk5 hk10
      go_simp
      exact ⟨(Below.refl _ _).alloc (Nat.le_refl _) _,Hn2.out⟩
    | 4, _ =>
      obtain rfl:=Option.some.inj ho
      have g0:ρ (.tmp 12) = .pointer (some ⟨wb,0,none⟩):=hk 12 (by simp [Op.operands,Call.operands])
      have k1:=HKW4.out.later hb
      have z0:=k1.cell 0 rfl
      clear hk hb HX4 HSRC4 HK114 HKW4 HB4 HX hk11 hk5 hk10
      go_simp
      exact Below.refl _ _
    | 5, _ =>
      obtain rfl:=Option.some.inj ho
      have g0:ρ (.tmp 57) = .slice a0 wl c0:=hk 57 (by simp [Op.operands,Call.operands])
      have gp:WrR 0 hdl (ρ (.tmp 56)) wx:=hk 56 (by simp [Op.operands,Call.operands])
      obtain ⟨hh,g1,hc⟩:=gp
      have hlw:(wInts wait).length=wl:=by rw [wInts_len];exact HWL.out.symm
      obtain ⟨v2,w2,hr,hl,a2,c2,hv,hs2⟩:=append_front (c:=c0) hc (HSRC4.out.below hb) (by rw [hlw,HWL.out];have:=HX4.out.few;omega) 51
      rw [hlw] at hr hv
      simp only [execOp,resolve,invoke,builtin,Sem.run_bind,Sem.run_pure,Result.andThen_ok,List.map_toArray,List.map_cons,List.map_nil,g0,g1,hr]
      exact ⟨hl,a2,c2,by rw [hv,wInts_len,List.length_cons,←HWL.out],hs2⟩
  · intro vs w5 hlen hb hR
    match vs,hlen with
    | [v0, v1, v2, v3, v4, v5], _ =>
      have r0:v0 = .func (.func 60) #[] #[.pointer (some ⟨jb,0,none⟩)]:=hR 0 v0 rfl
      have r1:v1 = .string (strOfNums hdl):=hR 1 v1 rfl
      have r2:v2 = .agg #[.int .i64 0,.string (strOfNums hdl)]:=hR 2 v2 rfl
      have r4:v4 = .slice a0 wl c0:=hR 4 v4 rfl
      have r3:WrR 0 hdl v3 w5:=hR 3 v3 rfl
      have r5:FrR (wInts ((0,hdl)::wait)) v5 w5:=hR 5 v5 rfl
      clear hR r3
      subst r0 r1 r2 r4
      obtain ⟨a6,c6,rfl,hs6⟩:=r5
      rw [wInts_len]
      have hX5:=HX4.out.later hb
      have hk55:Bk w5 jb #[.pointer (some ⟨jp,0,none⟩)] 25:=(hk5.out.later HB4.out).later hb
      have hk105:Bk w5 rb #[.int .i64 0] 36:=(hk10.out.later HB4.out).later hb
      have hbat:=chgJ_last (nn:=nn) ⟨HH.out.1,HH.out.2.1⟩ HAR.out.1 HAR.out.2.1 HAR.out.2.2.1 HSP.out hX5.few sl cnt
      rw [←HHD.out] at hbat
      have hdl0:done.length+wait.length≤h:=by have:=HCL.out;rw [HSP.out,List.length_append] at this;exact this
      have hput:=Bx.mk (jput_any w5 (nn+17) jb jp pp h bank s0 rv B dp g mb cap m' t' bv im' hX5.js hk55 hX5.st hX5.inv HA.out.ne (fun hS=>by have:=HJW.out _ hS;have:=HN.out;omega) (by have:=hX5.room;have:=HMT.out;have:=HH.out;omega) (by have:=hX5.cnt;have:=HMT.out;have:=HH.out;omega) a6 c6 _ hbat hs6)
      rw [List.length_cons] at hput ⊢
      have hfin:=HDN.out.next hbat (by have:=hX5.cnt;have:=HMT.out;have:=HH.out;omega) (fun x hx y hy=>by
       rcases List.mem_cons.1 hy with rfl | hy
       · exact fun e=>chgJ_pos (h:=h) (bank:=bk) (fr:=fr) (s:=s) (by rw [HSP.out];exact List.mem_append_left _ hx) e.symm
       · exact chgJ_apart (h:=h) (bank:=bk) (fr:=fr) (s:=s) (a:=done) (b:=wait) (c:=[]) (by rw [HSP.out,List.append_nil]) x hx y hy)
      have HFIN:Bx (DoneJ (nn+17) t im (done++(0,hdl)::wait) (t'+1) (wrote (t'+1) ((0,hdl)::wait) im')∧(done++(0,hdl)::wait).length≤h+1∧m'+40≤m+40 * (done++(0,hdl)::wait).length):=⟨hfin,by rw [List.length_append,List.length_cons];omega,by have:=hX5.room;rw [List.length_append,List.length_cons];omega⟩
      have HC5:Bx (Chg (WrS W1.heap.size jp pp dp g mb wb) W1 w5):=⟨(HCH.out.later HB4.out HCH.out.size).later hb (Nat.le_trans HCH.out.size HB4.out.size)⟩
      have HDW:Bx (W.heap[D]? = some (.deferred (some []))∧W.heap.size≤w5.heap.size∧w5.heap[D]? = W.heap[D]?):=⟨HKD.out,Nat.le_trans HB4.out.size hb.size,by
       have hDl:=(Array.getElem?_eq_some_iff.1 HKD.out).1
       rw [hb.block D (Nat.lt_of_lt_of_le hDl HB4.out.size),HB4.out.block D hDl]⟩
      have HK55:=Bx.mk hk55
      have HK105:=Bx.mk hk105
      clear hX5 hk55 hk105 hbat hfin hs6 hb hdl0 HX4 HSRC4 HK114 HKW4 HX hk11 hk5 hk10 HDN
      simp only [puts,List.take_succ_cons,List.take_zero,List.drop_succ_cons,List.drop_zero,List.map_cons,List.map_nil,List.zip_cons_cons,List.zip_nil_right,List.foldl_cons,List.foldl_nil]
      go_upto_region 14 with (go_at_call 60;refine hput.out.mono ?_;rintro _ w6 ⟨rfl,hst6,hj6,hc6⟩)
      have HST:=Bx.mk hst6
      have HC6:=Bx.mk hc6
      have HJ6:=Bx.mk hj6
      have kjb:Bk w6 jb #[.pointer (some ⟨jp,0,none⟩)] 25:=(HK55.out.chg hc6 fun hS=>by have:=HJW.out _ hS;have:=HN.out;omega)
      have kj:w6.cell? ⟨jb,0,none⟩=some (.pointer (some ⟨jp,0,none⟩)):=kjb.cell 0 rfl
      have k10:Bk w6 rb #[.int .i64 0] 36:=HK105.out.chg hc6 fun hS=>by have:=HJW.out _ hS;have:=HN.out;omega
      have K106:=Bx.mk k10
      have f2:w6.frozen? ⟨jp,2,none⟩=false:=Bk.frozen hj6 2
      have f3:w6.frozen? ⟨jp,3,none⟩=false:=Bk.frozen hj6 3
      have f4:w6.frozen? ⟨jp,4,none⟩=false:=Bk.frozen hj6 4
      have c2:w6.cell? ⟨jp,2,none⟩=some (.int .i64 (bank:Int)):=Bk.cell hj6 2 rfl
      have c3:w6.cell? ⟨jp,3,none⟩=some (.string (strOfNums s0)):=Bk.cell hj6 3 rfl
      have c4:w6.cell? ⟨jp,4,none⟩=some rv:=Bk.cell hj6 4 rfl
      have g2:w6.drew.frozen? ⟨jp,2,none⟩=false:=f2
      have g3:w6.drew.frozen? ⟨jp,3,none⟩=false:=f3
      have g4:w6.drew.frozen? ⟨jp,4,none⟩=false:=f4
      have njb:jb ≠ jp:=fun e=>by have:=HJW.out jp (.inl rfl);have:=HN.out;omega
      have kj2:(w6.setCell ⟨jp,2,none⟩ (.int .i64 (bk:Int))).cell? ⟨jb,0,none⟩=some (.pointer (some ⟨jp,0,none⟩)):=(kjb.other _ _ njb).cell 0 rfl
      have kj3:((w6.setCell ⟨jp,2,none⟩ (.int .i64 (bk:Int))).setCell ⟨jp,3,none⟩ (.string (strOfNums s))).cell? ⟨jb,0,none⟩=some (.pointer (some ⟨jp,0,none⟩)):=((kjb.other _ _ njb).other _ _ njb).cell 0 rfl
      have kj4:(((w6.setCell ⟨jp,2,none⟩ (.int .i64 (bk:Int))).setCell ⟨jp,3,none⟩ (.string (strOfNums s))).setCell ⟨jp,4,none⟩ (.slice ra cnt rc)).cell? ⟨jb,0,none⟩=some (.pointer (some ⟨jp,0,none⟩)):=(((kjb.other _ _ njb).other _ _ njb).other _ _ njb).cell 0 rfl
      clear hst6 hc6 hj6 k10 kjb hput HK55 HK105
      go_upto_region 16 with fail
      go_region_held3 (fun w'=>w'.cell? ⟨jb,0,none⟩=some (.pointer (some ⟨jp,0,none⟩))∧w'.frozen? ⟨jp,2,none⟩=false∧w'.frozen? ⟨jp,3,none⟩=false∧w'.frozen? ⟨jp,4,none⟩=false) (go_keep) (fail)
      clear c2 c3 c4 f2 f3 f4 g2 g3 g4 kj kj2 kj3 kj4
      have hj7:JS (((w6.setCell ⟨jp,2,none⟩ (.int .i64 (bk:Int))).setCell ⟨jp,3,none⟩ (.string (strOfNums s))).setCell ⟨jp,4,none⟩ (.slice ra cnt rc)).drew jp pp h bk s (.slice ra cnt rc) false:=by
       have h1:=Bk.set HJ6.out 2 (.int .i64 (bk:Int))
       have h2:=Bk.set h1 3 (.string (strOfNums s))
       have h3:=Bk.set h2 4 (.slice ra cnt rc)
       have h4:JS (((w6.setCell ⟨jp,2,none⟩ (.int .i64 (bk:Int))).setCell ⟨jp,3,none⟩ (.string (strOfNums s))).setCell ⟨jp,4,none⟩ (.slice ra cnt rc)) jp pp h bk s (.slice ra cnt rc) false:=by simpa [JS] using h3
       exact h4
      have hc7:Chg (· = jp) w6 (((w6.setCell ⟨jp,2,none⟩ (.int .i64 (bk:Int))).setCell ⟨jp,3,none⟩ (.string (strOfNums s))).setCell ⟨jp,4,none⟩ (.slice ra cnt rc)).drew:=(((Chg.setCell (S:=(· = jp)) (Chg.refl _ _) (.inl rfl) _).setCell (.inl rfl) _).setCell (.inl rfl) _).trans (.ofBelow (Below.refl _ _).drew _) fun _ _ h=>h
      generalize (((w6.setCell ⟨jp,2,none⟩ (.int .i64 (bk:Int))).setCell ⟨jp,3,none⟩ (.string (strOfNums s))).setCell ⟨jp,4,none⟩ (.slice ra cnt rc)).drew=w7 at *
      have hn:=HN.out
      have hjwl:=HJW.out
      have k107:Bk w7 rb #[.int .i64 0] 36:=K106.out.chg hc7 fun e=>by have:=hjwl jp (.inl rfl);omega
      have cr:=k107.cell 0 rfl
      have fr0:=k107.frozen 0
      have hr8:Bk (w7.setCell ⟨rb,0,none⟩ (.int .i64 0)) rb #[.int .i64 0] 36:=by simpa using k107.set 0 (.int .i64 0)
      have hj8:JS (w7.setCell ⟨rb,0,none⟩ (.int .i64 0)) jp pp h bk s (.slice ra cnt rc) false:=Bk.other hj7 _ _ (by have:=hjwl jp (.inl rfl);simp only;omega)
      have hc8:Chg (fun k=>k=jp∨k=rb) w6 (w7.setCell ⟨rb,0,none⟩ (.int .i64 0)):=(hc7.mono fun k _ hk=>.inl hk).setCell (.inl (.inr rfl)) _
      have HR8:=Bx.mk hr8
      have HJ8:=Bx.mk hj8
      have HC8:=Bx.mk hc8
      clear hj7 hc7 hr8 hj8 hc8 k107 K106 hn hjwl
      go_wp2_with fail
      generalize World.setCell w7 _ _=Y at *
      have hD6:w6.heap[D]? = some (.deferred (some [])):=by
       have h5:=HDW.out.2.2.trans HDW.out.1
       refine (HC6.out.block D (Array.getElem?_eq_some_iff.1 h5).1 fun hS=>?_).trans h5
       have:=HJW.out _ hS;have:=HN.out;have:=HSZ.out;have:=HDD.out;omega
      have hDY:Y.heap[D]? = some (.deferred (some [])):=(HC8.out.block D (Array.getElem?_eq_some_iff.1 hD6).1 fun hS=>by have:=HJW.out jp (.inl rfl);have:=HN.out;have:=HSZ.out;have:=HDD.out;rcases hS with hS | hS <;> omega).trans hD6
      refine ⟨by simp,.inl ⟨_,_,rfl,run_takeDeferred hDY,?_⟩⟩
      have hn:=HN.out
      have hsz:=HSZ.out
      have hdd:=HDD.out
      have hjp:=HJW.out jp (.inl rfl)
      have y0:=(HR8.out.putObj (l:=D) (by omega) (.deferred none)).cell 0 rfl
      refine ⟨.int .i64 0,by simp [results,Tryd.results34,go_sem,y0],?_⟩
      have hY:Chg (fun k=>k=jp∨k=rb∨k=D) w6 (Y.putObj D (.deferred none)):=(HC8.out.mono fun k _ hk=>hk.elim .inl fun h=>.inr (.inl h)).putObj (.inr (.inr (.inr rfl))) _
      refine ⟨rfl,_,_,_,_,HFIN.out.1,fun x=>?_,HFIN.out.2.1,HFIN.out.2.2,⟨HST.out.dk.chg hY fun k hk hS=>?_,Bk.chg HST.out.ps hY fun hS=>?_,HST.out.ne,HST.out.lo⟩,Bk.putObj HJ8.out (by omega) _,?_⟩
      · rw [HHD.out,HSL.out]
        have e:chgJ h bk s fr=done++wait:=HSP.out
        rw [e]
        simp only [List.mem_append,List.mem_cons]
        constructor
        · rintro (h | h | h)
          · exact .inr (.inl h)
          · exact .inl h
          · exact .inr (.inr h)
        · rintro (h | h | h)
          · exact .inr (.inl h)
          · exact .inl h
          · exact .inr (.inr h)
      · have:=HJW.out k (.inr (.inr hk))
        rcases hS with rfl | hS | hS
        · exact HA.out.ne.2 hk
        · omega
        · omega
      · have:=HJW.out pp (.inr (.inl rfl))
        rcases hS with hS | hS | hS
        · exact HA.out.ne.1 hS.symm
        · omega
        · omega
      · have c1:Chg (JW jp pp dp g mb) w w5:=⟨HC5.out.os.trans HBW.out.os,HC5.out.tape.trans HBW.out.tape,HC5.out.output.trans HBW.out.output,Nat.le_trans HBW.out.size HC5.out.size,fun k hk hS=>by
         rw [HC5.out.block k (Nat.lt_of_lt_of_le hk HBW.out.size) fun h=>by rcases h with h | h | h;omega;exact hS h;omega]
         exact HBW.out.block k hk⟩
        have c2:=c1.trans HC6.out fun _ _ h=>h
        refine c2.trans hY fun k hk hS=>?_
        rcases hS with rfl | hS | hS
        · exact .inl rfl
        · omega
        · omega
 case stop =>
  rintro D cc pre W _ hp h _
  exact absurd hp h
end Go.Proofs.YtajhkncolbgkbaaDoor
end
