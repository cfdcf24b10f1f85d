/- Cv2: joined by program, for one claim. -/
import Derived.Test.YtfcbajmjaifjlaaGreatMr
import Derived.Test.YtfcbajmjaifjlaaGreatM41
import Derived.Test.YtfcbajmjaifjlaaGreatM42
set_option linter.unusedVariables false
set_option linter.unusedSimpArgs false
section
namespace Go.Proofs.YtfcbajmjaifjlaaGreat
open Go.RowKit Go.Sort Go.Maps
open Oct
attribute [local go_sem] Oper.semAt_some
theorem cv_small {N:Nat} (hN:N≤12) {n:Nat} {a:Pt} (hin:InT N n a):Small ⟨⟨a.x,a.y,a.z⟩,⟨a.x+2 ^ (n+2),a.y+2 ^ (n+2),a.z+2 ^ (n+2)⟩⟩ 1048575:=by
 have hp:=pow_le (show N+2≤14 by omega)
 have h1:=hin.x
 have h2:=hin.y
 have h3:=hin.z
 exact ⟨by simp only;omega,by simp only;omega,by simp only;omega,by simp only;omega,by simp only;omega,by simp only;omega⟩
structure TcI (w:World) (Fr:Nat→Prop) (sb n:Nat) (F:Pt→Int) (ts:List Tr) (p:Pt) (sB iB:Nat) (v:Int) (wr:World):Prop where
 mi:MatI w Fr sb 1000000 n F ts [] (.slice none 0 0) wr
 kd:Bk wr (w.heap.size+1) #[.int .i64 ((n:Int)+2)] 3
 kp:Bk wr (w.heap.size+1+1) #[p.x,p.y,p.z] 23
 kr:Bk wr (w.heap.size+1+1+1) #[.bool false] 4
 ks:Bk wr sB #[.pointer (some ⟨sb,0,none⟩)] 32
 ki:Bk wr iB #[v] 3
 fr:Fr (w.heap.size+1)∧Fr (w.heap.size+1+1)∧Fr (w.heap.size+1+1+1)∧Fr sB∧Fr iB
 ge:w.heap.size+1+1+1<sB∧sB<iB
section
variable {w wr w':World} {Fr:Nat→Prop} {sb n:Nat} {F F':Pt→Int} {ts ts':List Tr} {p:Pt} {sB iB:Nat} {v:Int}
theorem TcI.later (h:TcI w Fr sb n F ts p sB iB v wr) (hb:Below wr.heap.size wr w'):TcI w Fr sb n F ts p sB iB v w' :=
 ⟨h.mi.later hb,h.kd.later hb,h.kp.later hb,h.kr.later hb,h.ks.later hb,h.ki.later hb,h.fr,h.ge⟩
theorem TcI.wide (h:TcI w Fr sb n F ts p sB iB v wr) (hb:Below wr.heap.size wr w') (x:Nat) (h1:wr.heap.size≤x) (h2:x<w'.heap.size):TcI w (fun k=>Fr k∨k=x) sb n F ts p sB iB v w' :=
 ⟨⟨(h.mi.st.widen (fun k hk => hk.imp (fun h => h) (fun (e : k = x) => by omega))).later hb, fun j hj => (by
   rcases hj with hj | rfl
   · exact Nat.lt_of_lt_of_le (h.mi.far j hj) hb.size
   · exact h2),fun j hj=>.inl (h.mi.old j hj),h.mi.bel.trans (hb.mono h.mi.bel.size),h.mi.good,h.mi.mem,h.mi.fn,h.mi.own.below hb,fun g hg=>.inl (h.mi.row g hg)⟩,h.kd.later hb,h.kp.later hb,h.kr.later hb,h.ks.later hb,h.ki.later hb,⟨.inl h.fr.1,.inl h.fr.2.1,.inl h.fr.2.2.1,.inl h.fr.2.2.2.1,.inl h.fr.2.2.2.2⟩,h.ge⟩
theorem TcI.made (h:TcI w Fr sb n F ts p sB iB v wr) (hk:Keeps Fr wr w') (hs:StoreIs w' Fr sb 1000000 ts') (hg:Good ts') (hm:trF n F'∈ts') (hf:FnC n F'):TcI w Fr sb n F' ts' p sB iB v w' :=
 ⟨h.mi.made hk hs hg hm hf,(hk.block _ h.fr.1 h.kd.lt).trans h.kd,(hk.block _ h.fr.2.1 h.kp.lt).trans h.kp,(hk.block _ h.fr.2.2.1 h.kr.lt).trans h.kr,(hk.block _ h.fr.2.2.2.1 h.ks.lt).trans h.ks,(hk.block _ h.fr.2.2.2.2 h.ki.lt).trans h.ki,h.fr,h.ge⟩
theorem TcI.put (h:TcI w Fr sb n F ts p sB iB v wr) (v':Int):TcI w Fr sb n F ts p sB iB v' (wr.setCell ⟨iB,0,none⟩ (.int .i64 v')):=by
 have hg:=grown_setCell wr ⟨iB,0,none⟩ (.int .i64 v')
 have hge:=h.ge
 exact ⟨⟨h.mi.st.apart hg h.fr.2.2.2.2,fun j hj=>Nat.lt_of_lt_of_le (h.mi.far j hj) hg.size,h.mi.old,h.mi.bel.setCell (by simp only;omega) _,h.mi.good,h.mi.mem,h.mi.fn,Ownv.nil _ _ _,fun g hg=>by cases hg⟩,h.kd.other _ _ (by simp only;omega),h.kp.other _ _ (by simp only;omega),h.kr.other _ _ (by simp only;omega),h.ks.other _ _ (by simp only;omega),Bk.put1 h.ki _,h.fr,h.ge⟩
end
set_option maxRecDepth 100000 in
set_option maxHeartbeats 8000000 in
theorem cv_on (a b c d e f:Int) (ha la:Option Addr) (hcp lc:Nat) (xs:List Int) (L:List Stp) (p:Pt) (w:World) (hl:xs.length≤300) (hL:L.length≤8) (hsl:Sl w .i64 ha xs) (hse:SlS w la L) (n:Nat) (hn:n≤12) (HX:GoodG ⟨⟨a,b,c⟩,⟨d,e,f⟩⟩ xs hcp) (hE:fromE ⟨⟨a,b,c⟩,⟨d,e,f⟩⟩ xs ((n:Int)+2)=0) (hV:validG ⟨⟨a,b,c⟩,⟨d,e,f⟩⟩ xs=true) (hC:emptyB ⟨⟨a,b,c⟩,⟨d,e,f⟩⟩=true∨containsB ⟨⟨0,0,0⟩,⟨2 ^ (n+2),2 ^ (n+2),2 ^ (n+2)⟩⟩ ⟨⟨a,b,c⟩,⟨d,e,f⟩⟩=true) (hfew:L.all (fewS n)=true) (hpin:inB p (cubeB (2 ^ (n+2)))=true) :
 Calls Tryz.prog 8 #[.agg #[a,b,c,d,e,f,.slice ha xs.length hcp],.int .i64 ((n:Int)+2),.slice la L.length lc,.agg #[p.x,p.y,p.z]] w fun e' w'=>e' = .returned (.bool true)∧Below w.heap.size w w':=by
 have Hse:=Bx.mk hse
 have Hfw:=Bx.mk fun W h1 h2=>few10_yes a b c d e f ha hcp xs hl n hn hE la lc L hL W h1 h2
 rw [hfew] at Hfw
 have Hbu:=Bx.mk fun W h1=>built10_yes 1000000 a b c d e f ha hcp xs hl n hn HX hE hV hC (.inr (by have:=addn_few HX hn;omega)) W h1
 have Hln:=Bx.mk (addn_few HX hn)
 have Hfn:=Bx.mk (grid_fn HX hC)
 have Hsl:=Bx.mk hsl
 have Hn:=Bx.mk hn
 have Hall:=Bx.mk hfew
 have Hir:=Bx.mk fun W=>ref_in p.x p.y p.z 0 0 0 (2 ^ (n+2)) (2 ^ (n+2)) (2 ^ (n+2)) W
 rw [show inB ⟨p.x,p.y,p.z⟩ ⟨⟨0,0,0⟩,⟨2 ^ (n+2),2 ^ (n+2),2 ^ (n+2)⟩⟩=true from hpin] at Hir
 have hp:=pow_le (show n+2≤14 by omega)
 have hw:IntKind.i64.wrap (2 ^ (n+2))=2 ^ (n+2):=IntWalk.i64_in _ (by omega)
 have hw2:wrap64 (2 ^ (n+2))=2 ^ (n+2):=by rw [←IntWalk.i64_left];exact hw
 have Hcu:=Bx.mk fun W=>(show Calls Tryz.prog 29 #[.int .i64 (wrap64 (2 ^ (n+2)))] W fun e w'=>e = .returned (.agg #[(0:Int),(0:Int),(0:Int),.int .i64 (2 ^ (n+2)),.int .i64 (2 ^ (n+2)),.int .i64 (2 ^ (n+2))])∧Below W.heap.size W w' by rw [hw2];exact cube4_any _ W)
 have m1:min ((n:Int)+2) 14=(n:Int)+2:=by omega
 have m2:max (0:Int) ((n:Int)+2)=(n:Int)+2:=by omega
 have hp1:(0:Int)≤(n:Int)+2:=by omega
 have HPin:=Bx.mk hpin
 clear hpin hp hw hw2
 clear hsl HX hV hC hE hn hse hfew
 generalize cellG ⟨⟨a,b,c⟩,⟨d,e,f⟩⟩ xs=F0 at *
 refine (callsIn_wide (n:=5)).1 ?_
 refine callsIn_of_wp_marks Tryz.func8 rfl trivial ?_ rfl
 simp only [Tryz.ntmps8,List.size_toArray,List.length_cons,List.length_nil,Nat.reduceAdd,Nat.reduceSub,Array.replicate_succ,Array.replicate_zero,List.push_toArray,List.append_toArray,List.nil_append,List.cons_append]
 refine (wpIn_wide (n:=5)).2 ?_
 go_upto_region 1 with fail
 generalize hW:World.alloc (World.alloc (World.alloc (World.alloc w _) _) _) _=W
 have HB:=Bx.mk (show Below w.heap.size w W by rw [←hW];exact ((((Below.refl _ _).alloc (Nat.le_refl _) _).alloc (by simp) _).alloc (by simp;omega) _).alloc (by simp;omega) _)
 have KG:=Bx.mk (show Bk W w.heap.size #[a,b,c,d,e,f,.slice ha xs.length hcp] 28 by rw [←hW];exact blk_old (blk_old (blk_old (blk_new _ _ _ (by simp)))))
 have KD:=Bx.mk (show Bk W (w.heap.size+1) #[.int .i64 ((n:Int)+2)] 3 by rw [←hW];exact blk_old (blk_old (blk_new _ _ _ (by simp))))
 have KP:=Bx.mk (show Bk W (w.heap.size+1+1) #[p.x,p.y,p.z] 23 by rw [←hW];exact blk_old (blk_new _ _ _ (by simp)))
 have KR:=Bx.mk (show Bk W (w.heap.size+1+1+1) #[.bool false] 4 by rw [←hW];exact blk_new _ _ _ (by simp))
 clear hW
 obtain ⟨c0,c1,c2,c3,c4,c5,c6⟩:=KG.out.r7
 have d0 : ∀ dk osk,(grow (redrawn W dk) osk).cell? ⟨w.heap.size+1,0,none⟩=some (.int .i64 ((n:Int)+2)):=cell_regrown (KD.out.cell 0 rfl)
 obtain ⟨e0,e1,e2⟩:=KP.out.r3
 have u0:=Bx.mk fun dk osk=>Calls.regrown_of (Hfw.out (grow (redrawn W dk) osk) (Hsl.out.below (HB.out.trans ((below_regrown W dk osk).mono HB.out.size))) (Hse.out.below (HB.out.trans ((below_regrown W dk osk).mono HB.out.size))))
 have u1:=Bx.mk fun dk osk=>Calls.regrown_of (Hcu.out (grow (redrawn W dk) osk))
 have u2:=Bx.mk fun dk osk=>Calls.regrown_of (Hir.out (grow (redrawn W dk) osk))
 refine wp_region_quiet_below (by kernel_rfl) (by kernel_rfl) ?_
 repeat (first | go_big_quiet_step ((first | with_reducible exact u0.out _ _ | with_reducible exact u1.out _ _ | with_reducible exact u2.out _ _)) | quiet_step (first | with_reducible exact u0.out _ _ | with_reducible exact u1.out _ _ | with_reducible exact u2.out _ _))
 refine wpQuiet_nil ?_
 rintro _ ⟨⟨dq,osq⟩,rfl⟩
 have hbq:=below_regrown W dq osq
 clear c0 c1 c2 c3 c4 c5 c6 d0 e0 e1 e2 u0 u1 u2 Hfw Hcu Hir m1 m2 hp1
 generalize grow (redrawn W dq) osq=w2 at *
 replace HB:=Bx.mk (HB.out.trans (hbq.mono HB.out.size))
 replace KG:=Bx.mk (KG.out.later hbq)
 replace KD:=Bx.mk (KD.out.later hbq)
 replace KP:=Bx.mk (KP.out.later hbq)
 replace KR:=Bx.mk (KR.out.later hbq)
 clear hbq
 obtain ⟨c0,c1,c2,c3,c4,c5,c6⟩:=KG.out.c7
 have d0:=KD.out.cell 0 rfl
 go_wp2_with fail
 refine (Hbu.out _ (Hsl.out.below HB.out)).mono ?_
 rintro _ w5 ⟨sb,rfl,hS,hb5⟩
 have hi0:=addn_mem n F0 []
 have hg0:=addn_good Hn.out Hfn.out good_nil
 have HM0:Bx (MatI w (fun k=>k<w2.heap.size) sb 1000000 n F0 (addn n F0 []) [] (.slice none 0 0) w5):=⟨⟨hS,fun j hj=>Nat.lt_of_lt_of_le hj hb5.size,fun j hj=>Nat.lt_of_lt_of_le hj HB.out.size,HB.out.trans (hb5.mono HB.out.size),hg0,hi0,Hfn.out,Ownv.nil _ _ _,fun g hg=>by cases hg⟩⟩
 have hle:=Hln.out
 have KD5:=Bx.mk (KD.out.later hb5)
 have KP5:=Bx.mk (KP.out.later hb5)
 have KR5:=Bx.mk (KR.out.later hb5)
 have HL2:=Bx.mk (show w.heap.size+1+1+1<w2.heap.size from KR.out.lt)
 have HS2:=Bx.mk hb5.size
 clear hb5 hS c0 c1 c2 c3 c4 c5 c6 d0 Hbu KG KP KD KR HB Hln hi0 hg0 Hsl
 generalize addn n F0 []=ts0 at *
 go_upto_region 4 with fail
 generalize hW:World.alloc (World.alloc w5 _) _=W6
 have hb6:=bl2 hW
 have ks:Bk W6 w5.heap.size #[.pointer (some ⟨sb,0,none⟩)] 32:=bk1 hW
 have ki:Bk W6 (w5.heap.size+1) #[.int .i64 (idn ts0 n F0)] 3:=bk0 hW
 have HI:Bx (TcI w (fun k=>k<w2.heap.size∨k=w5.heap.size∨k=w5.heap.size+1) sb n F0 ts0 p w5.heap.size (w5.heap.size+1) (idn ts0 n F0) W6):=⟨⟨⟨(HM0.out.st.widen (fun k hk=>by omega)).later hb6,fun j hj=>(by
  have h1:=ki.lt
  have h2:=HS2.out
  omega),fun j hj=>.inl (HM0.out.old j hj),HM0.out.bel.trans (hb6.mono HM0.out.bel.size),HM0.out.good,HM0.out.mem,HM0.out.fn,Ownv.nil _ _ _,fun g hg=>by cases hg⟩,KD5.out.later hb6,KP5.out.later hb6,KR5.out.later hb6,ks,ki,by have:=HL2.out;omega,by have:=HL2.out;have:=HS2.out;omega⟩⟩
 clear hW hb6 ks ki HM0 KD5 KP5 KR5 HL2 HS2
 generalize (fun k=>k<w2.heap.size∨k=w5.heap.size∨k=w5.heap.size+1)=Far0 at *
 generalize w5.heap.size+1=iB at *
 generalize w5.heap.size=sB at *
 go_wp2_with fail
 go_loopw [54] (fun v54 wr => ∃ (i:Nat) (Fr:Nat→Prop) (F:Pt→Int) (ts:List Tr),i≤L.length∧v54 = .int .i64 i∧Bx (TcI w Fr sb n F ts p sB iB (idn ts n F) wr∧ts.length≤3901+52000 * i)) (fun i _=>L.length - (intOf i).toNat)
 case atStart=>exact ⟨0,_,_,_,Nat.zero_le _,rfl,⟨HI.out,hle⟩⟩
 case round =>
  clear HI hle
  obtain ⟨i,Fr,F,ts,hi,rfl,HI⟩:=hrel
  by_cases hlt:i<L.length
  · have t0:decide ((i:Int)<(L.length:Int))=true:=by simp;omega
    obtain ⟨s,hs⟩ : ∃ s,L[i]? = some s:=⟨_,List.getElem?_eq_getElem hlt⟩
    obtain ⟨bA,oA,rfl,hcell,hok⟩:=Hse.out i s hs
    have hfs:fewS n s=true:=List.all_eq_true.1 Hall.out s (List.mem_of_getElem? hs)
    have hfx:s.ys ≠ [] → ∀ b,s.ga.map (·.block)=some b→Fr b:=fun hy b hb=>by
     obtain ⟨x,r,hxr⟩:=List.exists_cons_of_ne_nil hy
     obtain ⟨b',off,h1,h2⟩:=hok.ys 0 x (by rw [hxr];rfl)
     rw [h1] at hb
     simp only [Option.map_some,Option.some.injEq] at hb
     rw [←hb];exact HI.out.1.mi.old _ (World.block_lt_of_cell? w _ h2)
    have b1:(0:Int)≤(i:Int):=by omega
    have b2:(i:Int)<(L.length:Int):=by omega
    obtain ⟨AL,hA⟩ : ∃ AL,AL=s.arr.toList:=⟨_,rfl⟩
    have hAs:AL.length=24:=by rw [hA];rfl
    have hA1:Bx (AL.toArray.all (·.oneCell')=true):=⟨by rw [hA];simp [Value.oneCell']⟩
    have hi24:Bx ((Tryz.prog.info? 41).map (·.size)=some AL.length):=⟨by rw [hAs];kernel_rfl⟩
    have hi25:Bx ((Tryz.prog.info? 41).map (·.size)=some AL.toArray.size):=⟨by rw [List.size_toArray,hAs];kernel_rfl⟩
    have HR:Bx (wr.rangeAt bA (oA+i * 24) AL):=⟨fun j v hj=>cell_later HI.out.1.mi.bel (hcell j v (by rw [hA] at hj;simpa using hj))⟩
    have hAr:s.arr=AL.toArray:=by rw [hA]
    have HA24:=Bx.mk hAs
    have hlen4:ts.length≤500000:=by have:=HI.out.2;omega
    have Hpl:=Bx.mk fun (W':World) (hb:Below w.heap.size w W') (Fr2:Nat→Prop) (h2 : ∀ k,Fr k→Fr2 k) hFar hSt=>play_any Hn.out F HI.out.1.mi.fn s hfs sb 1000000 ts HI.out.1.mi.good (by omega) HI.out.1.mi.mem (fun F' h=>Nat.le_trans ((step_both Hn.out HI.out.1.mi.fn hfs h).2 ts HI.out.1.mi.good HI.out.1.mi.mem) (by omega)) W' (hok.below hb) Fr2 (fun hy b hb'=>h2 _ (hfx hy b hb')) hFar hSt
    rw [hAr] at Hpl
    have HFS:=Bx.mk hfs
    clear hA hAs hcell hok hfx hAr hs hfs
    go_upto_region 9 with (first
     | (refine wpList_load_mid rfl _ _ rfl bA (oA+i * 24) rfl AL _ HR.out Tryz.underlying41 rfl hi24.out ?_)
     | (refine wpList_store_whole rfl _ _ _ rfl wr.heap.size rfl _ AL.toArray rfl 41 (heap_alloc_new _ _) hi25.out (by rw [show AL.toArray.size=24 by simp [HA24.out]];rfl) hA1.out ?_))
    generalize hW:World.setRow (World.alloc wr _) _ _=W1
    have hB1:Below wr.heap.size wr W1:=by rw [←hW];exact below_setRow ((Below.refl _ _).alloc (Nat.le_refl _) _) (Nat.le_refl _) _
    have KS:=Bx.mk (show Bk W1 wr.heap.size AL.toArray 41 by rw [←hW];exact setRow_heap _ _ _ _ _ (0,0) (heap_alloc_new _ _))
    have HM:=Bx.mk (HI.out.1.wide hB1 wr.heap.size (Nat.le_refl _) KS.out.lt)
    have HP:=Bx.mk (Hpl.out W1 HM.out.mi.bel (fun k=>Fr k∨k=wr.heap.size) (fun k h=>.inl h) HM.out.mi.far HM.out.mi.st)
    have HLN:=Bx.mk HI.out.2
    have HLT:=Bx.mk HI.out.1
    clear hW hA1 HR HA24 Hpl hi24 HI hB1
    have x0:=HM.out.ks.cell 0 rfl
    have x1:=HM.out.ki.cell 0 rfl
    have x2:=HM.out.kd.cell 0 rfl
    go_wp2_with (refine wpList_load_whole rfl _ _ rfl wr.heap.size rfl _ _ KS.out _ Tryz.underlying41 rfl hi25.out ?_)
    refine HP.out.mono ?_
    intro e2 W2 hpr
    cases hst:stepF n F s with
    | none =>
      obtain ⟨rfl,hb2⟩:=hpr.no hst
      have hl5:ts.length≤3901+52000 * (i+1):=Nat.le_trans HLN.out (Nat.add_le_add_left (Nat.mul_le_mul_left _ (Nat.le_succ i)) _)
      have HJ:Bx (TcI w (fun k=>Fr k∨k=wr.heap.size) sb n F ts p sB iB (idn ts n F) W2∧ts.length≤3901+52000 * (i+1)):=⟨⟨HM.out.later hb2,hl5⟩⟩
      clear hpr hb2 HP HM KS hst hl5 x0 x1 x2
      go_wp2_with fail
      go_roundw
      case rel=>exact ⟨i+1,_,F,ts,by omega,by go_num,HJ⟩
      case measure=>simp [intOf];omega
    | some F' =>
      have hd:=hpr.yes F' hst
      have hsb:=step_both Hn.out HLT.out.mi.fn HFS.out hst
      have hlen':=hsb.2 ts HLT.out.mi.good HLT.out.mi.mem
      obtain ⟨rfl,hS3⟩:e2=ret2 (idn (addn n F' ts) n F') 0∧StoreIs W2 (fun k=>Fr k∨k=wr.heap.size) sb 1000000 (addn n F' ts):=by
       rcases hd.way with ⟨_,h2,h3⟩ | ⟨hn',_⟩
       · exact ⟨h2,h3⟩
       · exact absurd (.inr (by omega)) hn'
      have hl5:(addn n F' ts).length≤3901+52000 * (i+1):=by
       refine Nat.le_trans hlen' (Nat.le_trans (Nat.add_le_add_right HLN.out _) ?_)
       rw [Nat.mul_add,Nat.mul_one,Nat.add_assoc]
       exact Nat.le_refl _
      have HM3:=Bx.mk (HM.out.made hd.keeps hS3 (addn_good Hn.out hsb.1 HLT.out.mi.good) (addn_mem n F' ts) hsb.1)
      have HJ:Bx (TcI w (fun k=>Fr k∨k=wr.heap.size) sb n F' (addn n F' ts) p sB iB (idn (addn n F' ts) n F') _∧(addn n F' ts).length≤3901+52000 * (i+1)):=⟨⟨HM3.out.put _,hl5⟩⟩
      clear x0 x1 x2
      have x1:=HM3.out.ki.cell 0 rfl
      have y1:=HM3.out.ki.frozen 0
      clear hpr hd hsb hlen' hS3 HM HP KS hst hl5 HM3
      go_wp2_with fail
      go_roundw
      case rel=>exact ⟨i+1,_,F',addn n F' ts,by omega,by go_num,HJ⟩
      case measure=>simp [intOf];omega
  · obtain rfl:i=L.length:=by omega
    have t0:decide ((L.length:Int)<(L.length:Int))=false:=by simp
    have HTI:=Bx.mk HI.out.1
    have HL4:=Bx.mk (show ts.length≤4194304 by have:=HI.out.2;omega)
    clear HI hi hlt
    go_upto_region 14 with fail
    generalize hW:World.alloc (World.alloc wr _) _=W7
    have hb7:=bl2 hW
    have kn:Bk W7 wr.heap.size #[(0:Int)] 3:=bk1 hW
    have kc:Bk W7 (wr.heap.size+1) #[(0:Int)] 3:=bk0 hW
    have HT7:=Bx.mk (HTI.out.later hb7)
    clear hW t0
    have x0:=HT7.out.ks.cell 0 rfl
    have x1:=HT7.out.ki.cell 0 rfl
    have x2:=HT7.out.kd.cell 0 rfl
    go_wp2_with (go_at_call 25;refine (tleaves_any _ _ _ _).mono ?_;rintro _ _ ⟨rfl,rfl⟩)
    --LEAVES
    generalize hW0:World.alloc (World.alloc (World.alloc W7 _) _) _=W0
    have hB0:=bl3 hW0
    have hsz:W0.heap.size=W7.heap.size+3:=by rw [←hW0];simp
    have ks2:Bk W0 W7.heap.size #[.pointer (some ⟨sb,0,none⟩)] 32:=bk2 hW0
    have ki2:Bk W0 (W7.heap.size+1) #[(idT ts (trF n F):Int)] 3:=bk1 hW0
    have kd2:Bk W0 (W7.heap.size+1+1) #[.int .i64 ((n:Int)+2)] 3:=bk0 hW0
    clear hW0 x0 x1 x2
    have hk7:=kc.lt
    have hb70:=hb7.trans (hB0.mono hb7.size)
    have hS0:StoreIs W0 (fun k=>(k=wr.heap.size∨k=wr.heap.size+1)∨W0.heap.size≤k) sb 1000000 ts:=(((HTI.out.mi.st.less (Far:=fun _=>False) (fun k h=>h.elim)).widen (Far':=fun k=>wr.heap.size≤k) (fun k hk=>.inr hk)).later hb70).less (fun k hk=>by rcases hk with (rfl | rfl) | hk <;> omega)
    have hlf:=leaf_facts ts HTI.out.mi.good n n ⟨0,0,0⟩ (trF n F) (InT.top n) (dep_can F n _) HTI.out.mi.mem
    have hseq:=leaves_stops (fun k=>k=wr.heap.size∨k=wr.heap.size+1) W0.heap.size W7.heap.size (W7.heap.size+1+1) (W7.heap.size+1) sb n Hn.out 1000000 ts HTI.out.mi.good HL4.out (trF n F) HTI.out.mi.mem (dep_can F n _) (5 - 1) W0 ks2 kd2 ki2 hS0 (by omega) (by intro k hk;omega) (Nat.le_refl _)
    have HS0:=Bx.mk hS0
    have Hlf:=Bx.mk hlf
    have HB0:=Bx.mk hB0
    have KN0:=Bx.mk (kn.later hB0)
    have KC0:=Bx.mk (kc.later hB0)
    have HT0:=Bx.mk (HT7.out.later hB0)
    clear ks2 ki2 kd2 hS0 hlf hB0 kn kc HT7 hb7 hb70 hsz hk7
    generalize W7.heap.size=lB at *
    refine (wpIn_wide (n:=5)).1 ?_
    refine wpIn_rangeFunc_ownH rfl (by decide) (gf:=83) (lb:=#[.pointer (some ⟨lB,0,none⟩),.pointer (some ⟨lB+1+1,0,none⟩),.pointer (some ⟨lB+1,0,none⟩)]) rfl trivial (enters_of Tryz.func83 (by kernel_rfl) rfl)
     hseq KpE.trans (fun W l o o' hl h hc _=>KpE.putObj W l o o' hl h hc) (Below.refl _ _) (fun _=>rfl)
     (fun (pre:List { x // x∈leavesT n ⟨0,0,0⟩ (trF n F) }) W=>(Bk W wr.heap.size #[.int .i64 (cvN p (pre.map (·.1)))] 3∧Bk W (wr.heap.size+1) #[.int .i64 (cvC (pre.map (·.1)))] 3)∧KpE (fun k=>k=wr.heap.size∨k=wr.heap.size+1) W0.heap.size W0 W)
     (fun _ _ _=>False)
     (OwnFrom.and (OwnFrom.and (ownFrom_bk _ (fun (pre:List { x // x∈leavesT n ⟨0,0,0⟩ (trF n F) })=>#[.int .i64 (cvN p (pre.map (·.1)))]) _) (ownFrom_bk _ (fun (pre:List { x // x∈leavesT n ⟨0,0,0⟩ (trF n F) })=>#[.int .i64 (cvC (pre.map (·.1)))]) _)) ownFrom_kpE)
     (fun _ _ _ _ _ hs _ _=>hs)
     ⟨⟨by show Bk _ _ #[.int .i64 (cvN p [])] _;rw [cvN_nil];exact KN0.out,by show Bk _ _ #[.int .i64 (cvC [])] _;rw [cvC_nil];exact KC0.out⟩,KpE.refl _ _ _⟩
     (fun x a' W => ∃ xb,W0.heap.size≤xb∧Bk W xb #[.int .i64 x.1.1.x,.int .i64 x.1.1.y,.int .i64 x.1.1.z,.int .i64 ((x.1.2.1:Int)+2)] 39∧a'={ tmps:=#[.agg #[.int .i64 a,.int .i64 b,.int .i64 c,.int .i64 d,.int .i64 e,.int .i64 f,.slice ha xs.length hcp],.int .i64 ((n:Int)+2),.slice la L.length lc,.agg #[.int .i64 p.x,.int .i64 p.y,.int .i64 p.z],.pointer (some ⟨w.heap.size,0,none⟩),.pointer (some ⟨w.heap.size+1,0,none⟩),undef,.pointer (some ⟨w.heap.size+1+1,0,none⟩),.pointer (some ⟨w.heap.size+1+1+1,0,none⟩),.pointer (some ⟨sB,0,none⟩),.pointer (some ⟨iB,0,none⟩),.string (txt n F0),.bool true,undef,u14,u15,u16,.pointer (some ⟨wr.heap.size,0,none⟩),.pointer (some ⟨wr.heap.size+1,0,none⟩),.pointer (some ⟨xb,0,none⟩),.int .i64 (idT ts x.1.2.2:Int),undef,undef,undef,undef,undef,.agg #[.int .i64 a,.int .i64 b,.int .i64 c,.int .i64 d,.int .i64 e,.int .i64 f,.slice ha xs.length hcp],.int .i64 ((n:Int)+2),.slice la L.length lc,.bool true,.bool false,.bool false,.agg #[.int .i64 p.x,.int .i64 p.y,.int .i64 p.z],.int .i64 ((n:Int)+2),.int .i64 ((n:Int)+2),.int .i64 ((n:Int)+2),.int .i64 (wrap64 (2 ^ (n+2))),.agg #[.int .i64 0,.int .i64 0,.int .i64 0,.int .i64 (2 ^ (n+2)),.int .i64 (2 ^ (n+2)),.int .i64 (2 ^ (n+2))],.bool true,.bool false,.bool false,undef,.tuple #[.pointer (some ⟨sb,0,none⟩),.int .i64 (idn ts0 n F0),.string (txt n F0),.bool true],.agg #[.int .i64 a,.int .i64 b,.int .i64 c,.int .i64 d,.int .i64 e,.int .i64 f,.slice ha xs.length hcp],.int .i64 ((n:Int)+2),.tuple #[.pointer (some ⟨sb,0,none⟩),.int .i64 (idn ts0 n F0),.string (txt n F0),.bool true],.pointer (some ⟨sb,0,none⟩),.int .i64 (idn ts0 n F0),.string (txt n F0),.bool true,.bool true,.bool false,.slice la L.length lc,.int .i64 (L.length:Int),.int .i64 (L.length:Int),.bool false,u56,u57,u58,u59,u60,u61,u62,u63,u64,u65,u66,u67,u68,u69,.pointer (some ⟨sb,0,none⟩),.int .i64 (idn ts n F),.int .i64 ((n:Int)+2),.func (.func 83) #[] #[.pointer (some ⟨lB,0,none⟩),.pointer (some ⟨lB+1+1,0,none⟩),.pointer (some ⟨lB+1,0,none⟩)],cubeV x.1.1.x x.1.1.y x.1.1.z ((x.1.2.1:Int)+2),.int .i64 (idT ts x.1.2.2:Int),undef,undef,undef,undef,undef,undef,undef,undef,undef,undef,undef,undef,undef,undef,undef,undef,undef,undef,undef,undef,undef,undef,undef,undef,undef,undef,undef,undef,undef,undef,undef,undef,undef,undef,undef,undef,undef,undef,undef,undef,undef,undef,undef,undef,undef,undef,undef,undef,undef,undef,undef,undef,undef,undef,undef,undef,undef,undef,undef,undef,undef,undef,undef,undef,undef,undef,undef,undef,undef,undef],defers:=[] })
     (fun x a'=>fun _ X Y row hs hg hr=>by obtain ⟨xb,h1,h2,h3⟩:=hs;exact ⟨xb,h1,ownFrom_bk xb (fun (_:Unit)=>#[.int .i64 x.1.1.x,.int .i64 x.1.1.y,.int .i64 x.1.1.z,.int .i64 ((x.1.2.1:Int)+2)]) _ () X Y row h2 hg hr,h3⟩)
     ?assign ?body ?done ?stop
    case assign =>
     rintro l pre x W K ⟨⟨kn1,kc1⟩,hk1⟩ hK
     have hbA:Below W.heap.size W (W.alloc (.cells #[.int .i64 x.1.1.x,.int .i64 x.1.1.y,.int .i64 x.1.1.z,.int .i64 ((x.1.2.1:Int)+2)] 39)):=(Below.refl _ _).alloc (Nat.le_refl _) _
     have HK:=hK _ _ (keepsFrom_below hbA) (KpE.below hbA) ⟨⟨kn1.later hbA,kc1.later hbA⟩,hk1.trans (KpE.below hbA)⟩ ⟨W.heap.size,hk1.size,blk_new _ _ _ (by simp),rfl⟩
     replace HK:=Bx.mk HK
     clear hK
     gi_wp2
     exact HK.out
    case body =>
     rintro l pre ⟨⟨q,lv,t⟩,hx⟩ act W hl hr ⟨⟨kn1,kc1⟩,hk1⟩ ⟨xb,hxb,kx,rfl⟩ hlt
     obtain ⟨ht,hin,htk⟩:=Hlf.out _ hx
     simp only [] at ht hin htk kx ⊢
     have hnb : ∀ k,k<wr.heap.size → ¬(k=wr.heap.size∨k=wr.heap.size+1):=fun k hk=>by omega
     have hge:=HTI.out.ge
     have KS:=Bx.mk (hk1.bk HT0.out.ks (hnb _ HTI.out.ks.lt))
     have KI:=Bx.mk (hk1.bk HT0.out.ki (hnb _ HTI.out.ki.lt))
     have KD:=Bx.mk (hk1.bk HT0.out.kd (hnb _ HTI.out.kd.lt))
     have KP:=Bx.mk (hk1.bk HT0.out.kp (hnb _ HTI.out.kp.lt))
     have HSW:=Bx.mk (hk1.store HS0.out)
     have KX:=Bx.mk kx
     have KN:=Bx.mk kn1
     have KC:=Bx.mk kc1
     have HK1:=Bx.mk hk1
     have Hcb:=Bx.mk fun W=>cube_box Hn.out hin W
     have HCl:=Bx.mk fun W (h:StoreIs W (fun k=>(k=wr.heap.size∨k=wr.heap.size+1)∨W0.heap.size≤k) sb 1000000 ts)=>cells_any W _ sb 1000000 ts t ht HTI.out.mi.good (Nat.le_trans HL4.out (by decide)) h
     have Hix:=Bx.mk fun W=>ref_index q.x q.y q.z (q.x+2 ^ (lv+2)) (q.y+2 ^ (lv+2)) (q.z+2 ^ (lv+2)) p.x p.y p.z (cv_small Hn.out hin) W
     have Hgt:=Bx.mk fun W (h:StoreIs W (fun k=>(k=wr.heap.size∨k=wr.heap.size+1)∨W0.heap.size≤k) sb 1000000 ts)=>get_fn W _ sb 1000000 ts n F Hn.out HTI.out.mi.fn HTI.out.mi.good (Nat.le_trans HL4.out (by decide)) HTI.out.mi.mem p.x p.y p.z h
     generalize hpw:(2:Int) ^ (lv+2)=m at *
     have HPW:=Bx.mk hpw
     have Hir:=Bx.mk fun W=>ref_in p.x p.y p.z q.x q.y q.z (q.x+m) (q.y+m) (q.z+m) W
     rw [show inB ⟨p.x,p.y,p.z⟩ ⟨⟨q.x,q.y,q.z⟩,⟨q.x+m,q.y+m,q.z+m⟩⟩=inD p (q,lv) from by unfold inD;rw [←HPW.out]] at Hir
     obtain ⟨x0,x1,x2,x3⟩:=kx.c4
     clear kn1 kc1 hk1 kx hpw hnb
     gi_upto_region 18 with ((try refine ⟨trivial,?_⟩);gi_at_call 35;refine (CallsIn.inRound l (callsIn_wide.2 (Hcb.out _))).mono ?_;rintro _ w3 ⟨rfl,hb3⟩)
     have HW3S:=Bx.mk hb3.size
     generalize hW3:World.alloc w3 _=V3
     have hbv:Below W.heap.size W V3:=hb3.trans ((show Below w3.heap.size w3 V3 by rw [←hW3];exact (Below.refl _ _).alloc (Nat.le_refl _) _).mono hb3.size)
     have KBx:=Bx.mk (show Bk V3 w3.heap.size #[q.x,q.y,q.z,.int .i64 (q.x+m),.int .i64 (q.y+m),.int .i64 (q.z+m)] 25 by rw [←hW3];exact blk_new _ _ _ rfl)
     have HBV:=Bx.mk hbv
     have hle:=hin.le
     have hn12:=Hn.out
     have hp8:(8:Nat) ^ (lv+2)≤4398046511104:=Nat.le_trans (Nat.pow_le_pow_right (by decide) (show lv+2≤14 by omega)) (by decide)
     have he:IntKind.i64.wrap (2 ^ (3 * ((lv:Int)+2)).toNat)=((8 ^ (lv+2):Nat):Int):=by
      have h8:(8:Nat) ^ (lv+2)=2 ^ (3 * (lv+2)):=by rw [Nat.pow_mul]
      rw [show (3 * ((lv:Int)+2)).toNat=3 * (lv+2) by omega]
      have h9:(2:Int) ^ (3 * (lv+2))=((8 ^ (lv+2):Nat):Int):=by rw [h8,Int.natCast_pow];rfl
      rw [h9]
      exact (fun (q:Nat) (hq:q≤4398046511104)=>IntWalk.i64_in (q:Int) (by omega)) _ hp8
     have hw3:IntKind.i64.wrap (3 * ((lv:Int)+2))=3 * ((lv:Int)+2):=IntWalk.i64_in _ (by omega)
     have hs1:(0:Int)≤3 * ((lv:Int)+2):=by omega
     have Hcnt:Bx (cvN p ((pre++[(⟨(q,lv,t),hx⟩:{ x // x∈leavesT n ⟨0,0,0⟩ (trF n F) })]).map (·.1))=if inD p (q,lv)=true then wrap64 (cvN p (pre.map (·.1))+1) else cvN p (pre.map (·.1))):=⟨by rw [List.map_append];exact cvN_snoc p (pre.map (·.1)) (q,lv,t) hin.al⟩
     have hws:IntKind.i64.wrap (cvC (pre.map (·.1))+((8 ^ (lv+2):Nat):Int))=cvC ((pre++[(⟨(q,lv,t),hx⟩:{ x // x∈leavesT n ⟨0,0,0⟩ (trF n F) })]).map (·.1)):=by rw [List.map_append];exact cvC_snoc (pre.map (·.1)) (q,lv,t)
     generalize hS2:cvC ((pre++[(⟨(q,lv,t),hx⟩:{ x // x∈leavesT n ⟨0,0,0⟩ (trF n F) })]).map (·.1))=S2 at *
     have Hsum:=Bx.mk hS2
     generalize hSS:cvC (pre.map (·.1))=SS at *
     generalize hE8:((8 ^ (lv+2):Nat):Int)=e8 at *
     generalize hNN:cvN p (pre.map (·.1))=NN at *
     have HE:=Bx.mk he
     have HW3:=Bx.mk hw3
     have HWS:=Bx.mk hws
     have KX3:=Bx.mk (KX.out.later hbv)
     have KC3:=Bx.mk (KC.out.later hbv)
     clear hW3 hb3 hbv x0 x1 x2 x3 he hw3 hws hp8 hE8 hSS hNN Hcb hS2
     refine wpIn_region_relT l _ 6 (fun i v w'=>match i with
      | 0=>v = .int .i64 SS
      | 1=>v = .pointer (some ⟨xb,3,none⟩)
      | 2=>v = .int .i64 ((lv:Int)+2)
      | 3=>v = .int .i64 (3 * ((lv:Int)+2))
      | 4=>v = .int .i64 e8
      | _=>v = .int .i64 S2) (by kernel_rfl) (by kernel_rfl) (by kernel_rfl) (by rintro ⟨_,_,h⟩;exact h) 146 (by kernel_rfl) (by rfl) ?_ ?_ ?_
     · intro i hi v u1 u2 hb h
       match i,hi with
       | 0,_=>exact h
       | 1,_=>exact h
       | 2,_=>exact h
       | 3,_=>exact h
       | 4,_=>exact h
       | 5,_=>exact h
     · intro i o hi ho ρ w1 hb hc1 hc2 hc3 hk
       match i,hi with
       | 0, _ =>
         obtain rfl:=Option.some.inj ho
         have g0:ρ (.tmp 18) = .pointer (some ⟨wr.heap.size+1,0,none⟩):=hk 18 (by simp [Op.operands,Call.operands])
         have k1:=KC3.out.later hb
         have z0:=k1.cell 0 rfl
         clear hk hb KS KI KD KP HSW KX KN KC HK1 Hir KBx Hsum Hcnt HCl Hix Hgt
         go_simp
         exact Below.refl _ _
       | 1, _ =>
         obtain rfl:=Option.some.inj ho
         have g0:ρ (.tmp 19) = .pointer (some ⟨xb,0,none⟩):=hk 19 (by simp [Op.operands,Call.operands])
         clear hk hb KS KI KD KP HSW KX KN KC HK1 Hir KBx Hsum Hcnt HCl Hix Hgt
         go_simp
         exact Below.refl _ _
       | 2, _ =>
         obtain rfl:=Option.some.inj ho
         have g0:ρ (.tmp 82) = .pointer (some ⟨xb,3,none⟩):=hk 82 (by simp [Op.operands,Call.operands])
         have k1:=KX3.out.later hb
         obtain ⟨z0,z1,z2,z3⟩:=k1.c4
         clear hk hb KS KI KD KP HSW KX KN KC HK1 Hir KBx Hsum Hcnt HCl Hix Hgt
         go_simp
         exact Below.refl _ _
       | 3, _ =>
         obtain rfl:=Option.some.inj ho
         have g0:ρ (.tmp 83) = .int .i64 ((lv:Int)+2):=hk 83 (by simp [Op.operands,Call.operands])
         clear hk hb KS KI KD KP HSW KX KN KC HK1 Hir KBx Hsum Hcnt HCl Hix Hgt
         go_simp
         first | exact Below.refl _ _ | exact ⟨by rw [HW3.out],Below.refl _ _⟩ | exact ⟨HW3.out,Below.refl _ _⟩ | exact ⟨Below.refl _ _,HW3.out⟩
       | 4, _ =>
         obtain rfl:=Option.some.inj ho
         have g0:ρ (.tmp 84) = .int .i64 (3 * ((lv:Int)+2)):=hk 84 (by simp [Op.operands,Call.operands])
         clear hk hb KS KI KD KP HSW KX KN KC HK1 Hir KBx Hsum Hcnt HCl Hix Hgt
         go_simp
         first | exact Below.refl _ _ | exact ⟨by rw [HE.out],Below.refl _ _⟩ | exact ⟨HE.out,Below.refl _ _⟩ | exact ⟨Below.refl _ _,HE.out⟩
       | 5, _ =>
         obtain rfl:=Option.some.inj ho
         have g0:ρ (.tmp 81) = .int .i64 SS:=hk 81 (by simp [Op.operands,Call.operands])
         have g1:ρ (.tmp 85) = .int .i64 e8:=hk 85 (by simp [Op.operands,Call.operands])
         clear hk hb KS KI KD KP HSW KX KN KC HK1 Hir KBx Hsum Hcnt HCl Hix Hgt
         go_simp
         first | exact Below.refl _ _ | exact ⟨by rw [HWS.out],Below.refl _ _⟩ | exact ⟨HWS.out,Below.refl _ _⟩ | exact ⟨Below.refl _ _,HWS.out⟩
     · intro vs W4 hlen hb hR
       match vs,hlen with
       | [v0, v1, v2, v3, v4, v5], _ =>
         have r0:v0 = .int .i64 SS:=hR 0 v0 rfl
         have r1:v1 = .pointer (some ⟨xb,3,none⟩):=hR 1 v1 rfl
         have r2:v2 = .int .i64 ((lv:Int)+2):=hR 2 v2 rfl
         have r3:v3 = .int .i64 (3 * ((lv:Int)+2)):=hR 3 v3 rfl
         have r4:v4 = .int .i64 e8:=hR 4 v4 rfl
         have r5:v5 = .int .i64 S2:=hR 5 v5 rfl
         clear hR
         subst r0 r1 r2 r3 r4 r5
         simp only [puts,List.take_succ_cons,List.take_zero,List.drop_succ_cons,List.drop_zero,List.map_cons,List.map_nil,List.zip_cons_cons,List.zip_nil_right,List.foldl_cons,List.foldl_nil]
         have k1:=KC3.out.later hb
         have z0:=k1.cell 0 rfl
         have f0:=k1.frozen 0
         have HB4:=Bx.mk hb
         have KC4:=Bx.mk k1
         clear hb k1 KC3
         go_wp2_with fail
         have hb4:Below W.heap.size W W4:=HBV.out.trans (HB4.out.mono HBV.out.size)
         have hnc:wr.heap.size+1<W.heap.size:=KC.out.lt
         have hbx:w3.heap.size ≠ wr.heap.size+1:=by have:=HW3S.out;omega
         generalize hW5:World.setCell W4 _ _=W5
         have HR5:Bx (Rnd (fun k=>k=wr.heap.size∨k=wr.heap.size+1) W0.heap.size W W5):=⟨by rw [←hW5];exact (Rnd.below hb4).trans (Rnd.set _ _ _ (.inr rfl))⟩
         have oth : ∀ {g:Nat} {cs:Array Value} {ty:TypeId},g ≠ wr.heap.size+1→Bk W4 g cs ty→Bk W5 g cs ty:=fun hne h=>by rw [←hW5];exact h.other _ _ (by simp only;omega)
         have KP5:=Bx.mk (oth (by have:=HTI.out.kp.lt;omega) (KP.out.later hb4))
         have KS5:=Bx.mk (oth (by have:=HTI.out.ks.lt;omega) (KS.out.later hb4))
         have KI5:=Bx.mk (oth (by have:=HTI.out.ki.lt;omega) (KI.out.later hb4))
         have KD5:=Bx.mk (oth (by have:=HTI.out.kd.lt;omega) (KD.out.later hb4))
         have KN5:=Bx.mk (oth (by omega) (KN.out.later hb4))
         have KB5:=Bx.mk (oth hbx (KBx.out.later HB4.out))
         have KC5:Bx (Bk W5 (wr.heap.size+1) #[S2] 3):=⟨by rw [←hW5];exact Bk.put1 KC4.out _⟩
         have HSW5:=Bx.mk ((HK1.out.trans HR5.out.kp).store HS0.out)
         clear hW5 oth z0 f0 KC4 HB4 HBV KBx KX3 HE HW3 HWS hb4
         obtain ⟨p0,p1,p2⟩:=KP5.out.c3
         obtain ⟨b0,b1,b2,b3,b4,b5⟩:=KB5.out.c6
         rcases Bool.eq_false_or_eq_true (inD p (q,lv)) with hib | hib
         rotate_left
         · rw [hib] at Hir Hcnt
           have HIB:=Bx.mk hib
           clear hib
           gi_wp2_with ((try refine ⟨trivial,?_⟩);gi_at_call 36;refine (CallsIn.inRound l (callsIn_wide.2 (Hir.out _))).mono ?_;rintro _ w6 ⟨rfl,hb6⟩)
           refine ⟨(HR5.out.trans (Rnd.below hb6)).kf,(HR5.out.trans (Rnd.below hb6)).kp,⟨?_,?_⟩,HK1.out.trans (HR5.out.trans (Rnd.below hb6)).kp⟩
           · show Bk _ _ #[.int .i64 (cvN p _)] _
             rw [Hcnt.out,if_neg (by simp)]
             exact KN5.out.later hb6
           · show Bk _ _ #[.int .i64 (cvC _)] _
             rw [Hsum.out]
             exact KC5.out.later hb6
         · rw [hib] at Hir Hcnt
           have HIB:=Bx.mk hib
           clear hib
           gi_upto_region 20 with ((try refine ⟨trivial,?_⟩);gi_at_call 36;refine (CallsIn.inRound l (callsIn_wide.2 (Hir.out _))).mono ?_;rintro _ w6 ⟨rfl,hb6⟩)
           have HR6:=Bx.mk (HR5.out.trans (Rnd.below hb6))
           have KN6:=Bx.mk (KN5.out.later hb6)
           have KC6:=Bx.mk (KC5.out.later hb6)
           have KS6:=Bx.mk (KS5.out.later hb6)
           have KI6:=Bx.mk (KI5.out.later hb6)
           have KD6:=Bx.mk (KD5.out.later hb6)
           have KP6:=Bx.mk (KP5.out.later hb6)
           have KB6:=Bx.mk (KB5.out.later hb6)
           clear hb6 p0 p1 p2 b0 b1 b2 b3 b4 b5 HR5 KN5 KC5 KS5 KI5 KD5 KP5 KB5 HSW5
           have z0:=KN6.out.cell 0 rfl
           have f0:=KN6.out.frozen 0
           gi_upto_region 21 with fail
           have hnn:wr.heap.size<W.heap.size:=by have:=KC.out.lt;omega
           have hbn:w3.heap.size ≠ wr.heap.size:=by have:=HW3S.out;omega
           generalize hW7:World.setCell w6 _ _=V7
           have HR7:Bx (Rnd (fun k=>k=wr.heap.size∨k=wr.heap.size+1) W0.heap.size W V7):=⟨by rw [←hW7];exact HR6.out.trans (Rnd.set _ _ _ (.inl rfl))⟩
           have oth : ∀ {g:Nat} {cs:Array Value} {ty:TypeId},g ≠ wr.heap.size→Bk w6 g cs ty→Bk V7 g cs ty:=fun hne h=>by rw [←hW7];exact h.other _ _ (by simp only;omega)
           have KP7:=Bx.mk (oth (by have:=HTI.out.kp.lt;omega) KP6.out)
           have KS7:=Bx.mk (oth (by have:=HTI.out.ks.lt;omega) KS6.out)
           have KI7:=Bx.mk (oth (by have:=HTI.out.ki.lt;omega) KI6.out)
           have KD7:=Bx.mk (oth (by have:=HTI.out.kd.lt;omega) KD6.out)
           have KC7:=Bx.mk (oth (by omega) KC6.out)
           have KB7:=Bx.mk (oth hbn KB6.out)
           have KN7:Bx (Bk V7 wr.heap.size #[.int .i64 (wrap64 (NN+1))] 3):=⟨by have h:=Bk.put1 KN6.out (.int .i64 (wrap64 (NN+1)));rw [hW7] at h;exact h⟩
           have HSW7:=Bx.mk ((HK1.out.trans HR7.out.kp).store HS0.out)
           clear hW7 oth z0 f0 HR6 KP6 KS6 KI6 KD6 KC6 KB6 KN6 hnn hbn
           have s0:=KS7.out.cell 0 rfl
           gi_upto_region 22 with ((try refine ⟨trivial,?_⟩);gi_at_call 41;refine (CallsIn.inRound l (callsIn_wide.2 (HCl.out _ HSW7.out))).mono ?_;rintro _ w8 ⟨v,rfl,hown,hb8⟩;obtain ⟨va,vc,rfl⟩:=row_form hown)
           have HR8:=Bx.mk (HR7.out.trans (Rnd.below hb8))
           have KP8:=Bx.mk (KP7.out.later hb8)
           have KS8:=Bx.mk (KS7.out.later hb8)
           have KI8:=Bx.mk (KI7.out.later hb8)
           have KD8:=Bx.mk (KD7.out.later hb8)
           have KC8:=Bx.mk (KC7.out.later hb8)
           have KB8:=Bx.mk (KB7.out.later hb8)
           have KN8:=Bx.mk (KN7.out.later hb8)
           have HSW8:=Bx.mk (HSW7.out.later hb8)
           have HOW:=Bx.mk hown
           clear hb8 hown s0 HR7 KP7 KS7 KI7 KD7 KC7 KB7 KN7 HSW7 HCl
           obtain ⟨p0,p1,p2⟩:=KP8.out.c3
           obtain ⟨b0,b1,b2,b3,b4,b5⟩:=KB8.out.c6
           gi_upto_region 23 with ((try refine ⟨trivial,?_⟩);gi_at_call 42;refine (CallsIn.inRound l (callsIn_wide.2 (Hix.out _))).mono ?_;rintro _ w9 ⟨rfl,hb9⟩)
           have HR9:=Bx.mk (HR8.out.trans (Rnd.below hb9))
           have KP9:=Bx.mk (KP8.out.later hb9)
           have KS9:=Bx.mk (KS8.out.later hb9)
           have KI9:=Bx.mk (KI8.out.later hb9)
           have KD9:=Bx.mk (KD8.out.later hb9)
           have KC9:=Bx.mk (KC8.out.later hb9)
           have KN9:=Bx.mk (KN8.out.later hb9)
           have HSW9:=Bx.mk (HSW8.out.later hb9)
           have HOW9:=Bx.mk (HOW.out.below hb9)
           clear hb9 p0 p1 p2 b0 b1 b2 b3 b4 b5 HR8 KP8 KS8 KI8 KD8 KC8 KN8 KB8 HSW8 HOW Hix
           rcases htk with ⟨dv,rfl⟩ | ⟨rfl,ys,rfl⟩
           · have ho:outT (Tr.uni dv)=[dv]:=rfl
             rw [ho] at HOW9 ⊢
             have hg:F ⟨p.x,p.y,p.z⟩=dv:=(leaf_get hx ((inB_inC (n:=lv) (ax:=q.x) (ay:=q.y) (az:=q.z) rfl (show Tr.Al lv ⟨q.x,q.y,q.z⟩ from hin.al) (p:=p)).1 HIB.out)).1 dv rfl
             rw [hg] at Hgt
             obtain ⟨gb,go,rfl,cm⟩:=HOW9.out.sl 0 dv rfl
             rw [List.length_singleton]
             have tl:(((1:Nat):Int) == 1)=true:=rfl
             have cm0:w9.cell? ⟨gb,go,none⟩=some (.int .i64 dv):=by simpa using cm
             have t9:decide (((1:Nat):Int)≤0)=false:=by decide
             have tb1:(0:Int)≤0:=Int.le_refl 0
             have tb2:(0:Int)<((1:Nat):Int):=by decide
             gi_upto_region 25 with fail
             have x0 : ∀ dk osk,(grow (redrawn w9 dk) osk).cell? _=_:=cell_regrown (KS9.out.cell 0 rfl)
             have x1 : ∀ dk osk,(grow (redrawn w9 dk) osk).cell? _=_:=cell_regrown (KI9.out.cell 0 rfl)
             have x2 : ∀ dk osk,(grow (redrawn w9 dk) osk).cell? _=_:=cell_regrown (KD9.out.cell 0 rfl)
             have x3 : ∀ dk osk,(grow (redrawn w9 dk) osk).cell? _=_:=cell_regrown (KP9.out.cell 0 rfl)
             have x4 : ∀ dk osk,(grow (redrawn w9 dk) osk).cell? _=_:=cell_regrown (KP9.out.cell 1 rfl)
             have x5 : ∀ dk osk,(grow (redrawn w9 dk) osk).cell? _=_:=cell_regrown (KP9.out.cell 2 rfl)
             have cm1 : ∀ dk osk,(grow (redrawn w9 dk) osk).cell? _=_:=cell_regrown cm0
             have u0:=Bx.mk fun dk osk=>Calls.regrown_of (Hgt.out (grow (redrawn w9 dk) osk) (HSW9.out.later (below_regrown w9 dk osk)))
             refine wpIn_region_quietR l _ (by kernel_rfl) (by kernel_rfl) (by kernel_rfl) (by rintro ⟨_,_,h⟩;exact h) ?_
             repeat (first | go_big_quiet_step (exact u0.out _ _) | quiet_step (exact u0.out _ _))
             refine wpQuiet_nil ?_
             rintro _ ⟨⟨dq,osq⟩,rfl⟩
             have hbq:=below_regrown w9 dq osq
             clear x0 x1 x2 x3 x4 x5 cm1 cm0 u0 cm
             generalize grow (redrawn w9 dq) osq=wq at *
             have HRq:=Bx.mk (HR9.out.trans (Rnd.below hbq))
             have KNq:=Bx.mk (KN9.out.later hbq)
             have KCq:=Bx.mk (KC9.out.later hbq)
             clear hbq
             gi_wp2_with fail
             refine ⟨HRq.out.kf,HRq.out.kp,⟨?_,?_⟩,HK1.out.trans HRq.out.kp⟩
             · show Bk _ _ #[.int .i64 (cvN p _)] _
               rw [Hcnt.out,if_pos trivial]
               exact KNq.out
             · show Bk _ _ #[.int .i64 (cvC _)] _
               rw [Hsum.out]
               exact KCq.out
           · have ho:outT (Tr.brick ys)=ys:=rfl
             rw [ho] at HOW9 ⊢
             obtain ⟨hy64,hyF,hyI⟩:=leaf_brick HTI.out.mi.fn hx hin.al HIB.out
             have hyI2:indexB ⟨⟨q.x,q.y,q.z⟩,⟨q.x+m,q.y+m,q.z+m⟩⟩ ⟨p.x,p.y,p.z⟩=((Tr.idx p:Nat):Int):=by rw [←HPW.out];exact hyI
             have hlk:=Tr.idx_lt p
             obtain ⟨gb,go,rfl,cm⟩:=HOW9.out.sl (Tr.idx p) (F p) hyF
             rw [hyI2,hy64]
             have hg:F ⟨p.x,p.y,p.z⟩=F p:=rfl
             rw [hg] at Hgt
             generalize F p=dv at *
             generalize Tr.idx p=k at *
             have tl:(((64:Nat):Int) == 1)=false:=rfl
             have cm0:w9.cell? ⟨gb,go+k,none⟩=some (.int .i64 dv):=by simpa using cm
             have t9:decide (((64:Nat):Int)≤(k:Int))=false:=by simp;omega
             have tb1:(0:Int)≤(k:Int):=by omega
             have tb2:(k:Int)<((64:Nat):Int):=by omega
             have t10:decide ((64:Int)≤(k:Int))=false:=by simp;omega
             have tb3:(k:Int)<64:=by omega
             have tb4 : ¬((64:Int)≤(k:Int)):=by omega
             clear hyI hyI2 hyF hy64 hlk hg
             gi_upto_region 25 with fail
             have x0 : ∀ dk osk,(grow (redrawn w9 dk) osk).cell? _=_:=cell_regrown (KS9.out.cell 0 rfl)
             have x1 : ∀ dk osk,(grow (redrawn w9 dk) osk).cell? _=_:=cell_regrown (KI9.out.cell 0 rfl)
             have x2 : ∀ dk osk,(grow (redrawn w9 dk) osk).cell? _=_:=cell_regrown (KD9.out.cell 0 rfl)
             have x3 : ∀ dk osk,(grow (redrawn w9 dk) osk).cell? _=_:=cell_regrown (KP9.out.cell 0 rfl)
             have x4 : ∀ dk osk,(grow (redrawn w9 dk) osk).cell? _=_:=cell_regrown (KP9.out.cell 1 rfl)
             have x5 : ∀ dk osk,(grow (redrawn w9 dk) osk).cell? _=_:=cell_regrown (KP9.out.cell 2 rfl)
             have cm1 : ∀ dk osk,(grow (redrawn w9 dk) osk).cell? _=_:=cell_regrown cm0
             have u0:=Bx.mk fun dk osk=>Calls.regrown_of (Hgt.out (grow (redrawn w9 dk) osk) (HSW9.out.later (below_regrown w9 dk osk)))
             refine wpIn_region_quietR l _ (by kernel_rfl) (by kernel_rfl) (by kernel_rfl) (by rintro ⟨_,_,h⟩;exact h) ?_
             repeat (first | go_big_quiet_step (exact u0.out _ _) | quiet_step (exact u0.out _ _))
             refine wpQuiet_nil ?_
             rintro _ ⟨⟨dq,osq⟩,rfl⟩
             have hbq:=below_regrown w9 dq osq
             clear x0 x1 x2 x3 x4 x5 cm1 cm0 u0 cm
             generalize grow (redrawn w9 dq) osq=wq at *
             have HRq:=Bx.mk (HR9.out.trans (Rnd.below hbq))
             have KNq:=Bx.mk (KN9.out.later hbq)
             have KCq:=Bx.mk (KC9.out.later hbq)
             clear hbq
             gi_wp2_with fail
             refine ⟨HRq.out.kf,HRq.out.kp,⟨?_,?_⟩,HK1.out.trans HRq.out.kp⟩
             · show Bk _ _ #[.int .i64 (cvN p _)] _
               rw [Hcnt.out,if_pos trivial]
               exact KNq.out
             · show Bk _ _ #[.int .i64 (cvC _)] _
               rw [Hsum.out]
               exact KCq.out
    case done =>
     rintro D ys W hD hxs ⟨⟨kn1,kc1⟩,hk1⟩ hK
     rw [hxs] at kn1 kc1
     rw [cvN_all F HPin.out] at kn1
     rw [cvC_all Hn.out] at kc1
     have hnb : ∀ k,k<wr.heap.size → ¬(k=wr.heap.size∨k=wr.heap.size+1):=fun k hk=>by omega
     have KS:=Bx.mk (hk1.bk HT0.out.ks (hnb _ HTI.out.ks.lt))
     have KI:=Bx.mk (hk1.bk HT0.out.ki (hnb _ HTI.out.ki.lt))
     have KD:=Bx.mk (hk1.bk HT0.out.kd (hnb _ HTI.out.kd.lt))
     have KR:=Bx.mk (hk1.bk HT0.out.kr (hnb _ HTI.out.kr.lt))
     have HSW:=Bx.mk (hk1.store HS0.out)
     have KN:=Bx.mk kn1
     have KC:=Bx.mk kc1
     have HKD:=Bx.mk hK
     have HK1:=Bx.mk hk1
     have HDD:=Bx.mk (show w.heap.size+1+1+1<D by have:=HT0.out.kr.lt;omega)
     have Hct:=Bx.mk fun (k:Nat) W h=>tcount_any 1000000 ts HTI.out.mi.good HL4.out sb n Hn.out (trF n F) HTI.out.mi.mem (dep_can F n _) (k:Int) W (fun k=>(k=wr.heap.size∨k=wr.heap.size+1)∨W0.heap.size≤k) h
     obtain ⟨SC,hSC⟩ : ∃ SC,SC=cvS (leavesT n ⟨0,0,0⟩ (trF n F)):=⟨_,rfl⟩
     have hs0:SC 0=0:=by rw [hSC];rfl
     have Hs1:Bx (∀ k:Nat,IntKind.i64.wrap (SC k+cntS (k:Int) (leavesT n ⟨0,0,0⟩ (trF n F)))=SC (k+1)):=⟨by rw [hSC];intro k;rfl⟩
     have Hs2:Bx (SC 256=((8 ^ (n+2):Nat):Int)):=⟨by rw [hSC,cvS_all (leaves_ok HTI.out.mi.fn.range),cvC_all Hn.out]⟩
     have he:=shl_eight Hn.out
     have hw3:IntKind.i64.wrap (3 * ((n:Int)+2))=3 * ((n:Int)+2):=by have:=Hn.out;exact IntWalk.i64_in _ (by omega)
     have hsh:(0:Int)≤3 * ((n:Int)+2):=by omega
     generalize ((8 ^ (n+2):Nat):Int)=E8 at *
     have HE:=Bx.mk he
     have HW3:=Bx.mk hw3
     clear kn1 kc1 hk1 hK hnb hxs hSC he hw3 Hlf HB0 KN0 KC0
     go_upto_region 29 with fail
     go_loopw [24,118] (fun v24 v118 wr => ∃ k:Nat,k≤256∧v24 = .int .i64 (SC k)∧v118 = .int .i64 k∧Bx (Below W.heap.size W wr)) (fun _ i _=>256 - (intOf i).toNat)
     case atStart=>exact ⟨0,by omega,by rw [hs0],rfl,⟨Below.refl _ _⟩⟩
     case round =>
      obtain ⟨k,hk,rfl,rfl,HB⟩:=hrel
      by_cases hlt:k<256
      · have t0:decide ((k:Int)<256)=true:=by simp;omega
        have b1:(0:Int)≤(k:Int):=by omega
        have b2:(k:Int)<256:=by omega
        have x0:=(KS.out.later HB.out).cell 0 rfl
        have x1:=(KI.out.later HB.out).cell 0 rfl
        have x2:=(KD.out.later HB.out).cell 0 rfl
        have hw:=Hs1.out k
        have hcl:=Bx.mk (Hct.out k _ (HSW.out.later HB.out))
        go_wp2_with fail
        refine hcl.out.mono ?_
        rintro _ wz ⟨rfl,hbz⟩
        have HBz:=Bx.mk (HB.out.trans (hbz.mono HB.out.size))
        clear hbz hcl x0 x1 x2
        go_wp2_with fail
        go_roundw
        case rel=>exact ⟨k+1,by omega,rfl,by go_num,HBz⟩
        case measure=>simp [intOf];omega
      · obtain rfl:k=256:=by omega
        have t0:decide (((256:Nat):Int)<256)=false:=by decide
        go_upto_region 33 with fail
        have c0 : ∀ dk osk,(grow (redrawn wr dk) osk).cell? _=_:=cell_regrown ((KN.out.later HB.out).cell 0 rfl)
        have c1 : ∀ dk osk,(grow (redrawn wr dk) osk).cell? _=_:=cell_regrown ((KC.out.later HB.out).cell 0 rfl)
        have c2 : ∀ dk osk,(grow (redrawn wr dk) osk).cell? _=_:=cell_regrown ((KD.out.later HB.out).cell 0 rfl)
        have u0:=Bx.mk fun dk osk=>Calls.regrown_of (sanity10_true (grow (redrawn wr dk) osk))
        have he:=HE.out
        have he2:wrap64 (2 ^ (3 * ((n:Int)+2)).toNat)=E8:=by rw [←IntWalk.i64_left];exact he
        have he3:wrap64 ((2:Int) ^ min (3 * (n+2)) 64)=E8:=by have h12:=Hn.out;rw [Nat.min_eq_left (by omega)];rw [show (3 * ((n:Int)+2)).toNat=3 * (n+2) by omega] at he2;exact he2
        have hw3:=HW3.out
        have hw4:wrap64 (3 * ((n:Int)+2))=3 * ((n:Int)+2):=by rw [←IntWalk.i64_left];exact hw3
        rw [Hs2.out]
        have te:(E8 == E8)=true:=by simp
        refine wp_region_head_below 17 (by kernel_rfl) (by kernel_rfl) ?_
        simp only [List.take_succ_cons,List.take_zero,List.drop_succ_cons,List.drop_zero]
        repeat (first | go_big_quiet_step (exact u0.out _ _) | quiet_step (exact u0.out _ _))
        refine wpQuiet_nil ?_
        rintro _ ⟨⟨dq,osq⟩,rfl⟩
        have hbq:=below_regrown wr dq osq
        clear c0 c1 c2 u0
        generalize grow (redrawn wr dq) osq=wz at *
        have HBz:=Bx.mk (HB.out.trans (hbq.mono HB.out.size))
        have KRz:=Bx.mk (KR.out.later HBz.out)
        have HKz:=Bx.mk ((HBz.out.block D (Array.getElem?_eq_some_iff.1 HKD.out).1).trans HKD.out)
        have HBw:=Bx.mk (show Below w.heap.size w wz from HT0.out.mi.bel.trans (by
         have h0:=HT0.out.mi.bel.size
         have h1:=HTI.out.mi.bel.size
         exact ⟨HBz.out.os.trans HK1.out.os,HBz.out.tape.trans HK1.out.tape,HBz.out.output.trans HK1.out.output,Nat.le_trans HK1.out.size HBz.out.size,fun k hk=>by
          have hlt:k<W0.heap.size:=by omega
          have e:W0.heap[k]? = some W0.heap[k]:=Array.getElem?_eq_getElem hlt
          have e2:=HK1.out.blk k _ e (by omega) (.inl hlt)
          rw [HBz.out.block k (Array.getElem?_eq_some_iff.1 e2).1,e2,e]⟩))
        clear hbq HBz HB KR HKD he he2 he3 hw3 hw4
        have y0:=KRz.out.cell 0 rfl
        have f0:=KRz.out.frozen 0
        go_wp2_with fail
        have z0:((wz.setCell ⟨w.heap.size+1+1+1,0,none⟩ (.bool true)).cell? ⟨w.heap.size+1+1+1,0,none⟩)=some (.bool true):=(Bk.put1 KRz.out (.bool true)).cell 0 rfl
        have hne:D ≠ w.heap.size+1+1+1:=by have:=HDD.out;omega
        have hK2:(wz.setCell ⟨w.heap.size+1+1+1,0,none⟩ (.bool true)).heap[D]? = some (.deferred (some [])):=(heap_setCell_other wz ⟨w.heap.size+1+1+1,0,none⟩ D (.bool true) hne).trans HKz.out
        have hB2:Below w.heap.size w (wz.setCell ⟨w.heap.size+1+1+1,0,none⟩ (.bool true)):=HBw.out.setCell (by simp only;omega) _
        refine ⟨by simp,.inl ⟨_,_,rfl,run_takeDeferred hK2,?_⟩⟩
        have hK3:Bk ((wz.setCell ⟨w.heap.size+1+1+1,0,none⟩ (.bool true)).putObj D (.deferred none)) (w.heap.size+1+1+1) #[.bool true] 4:=((below_put (n:=w.heap.size+1+1+1+1) (o':=.deferred none) (Below.refl _ _) (by have:=HDD.out;omega) hK2 rfl).block (w.heap.size+1+1+1) (by omega)).trans (Bk.put1 KRz.out (.bool true))
        have z1:=hK3.cell 0 rfl
        exact ⟨.bool true,by simp [results,Tryz.results8,go_sem,z1],rfl,below_put hB2 (by have:=HDD.out;omega) hK2 rfl⟩
    case stop =>
     rintro D cc pre W _ _ h _
     exact h.elim
end Go.Proofs.YtfcbajmjaifjlaaGreat
end
