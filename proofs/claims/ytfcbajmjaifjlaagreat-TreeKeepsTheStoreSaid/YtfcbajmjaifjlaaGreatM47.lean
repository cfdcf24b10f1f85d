/- Rm6, Ply, Few1, Blw: joined by program, for one claim. -/
import Derived.Test.YtfcbajmjaifjlaaGreatM45
import Derived.Test.YtfcbajmjaifjlaaGreatM46
import Derived.Test.YtfcbajmjaifjlaaGreatM28
import Derived.Test.YtfcbajmjaifjlaaGreatM1
import Derived.Lib.EndianBits
import Derived.Laws.Tables
set_option linter.unusedVariables false
set_option linter.unusedSimpArgs false
namespace Go.Proofs.YtfcbajmjaifjlaaGreat
section
open Go.RowKit Go.Sort Go.Maps
open Oct
theorem pts_take {cs:List Chg} {j:Nat} {c:Chg} (h:cs[j]? = some c) (g:Pt→Int):writeF (pts (cs.take (j+1))) g=Tr.upd (writeF (pts (cs.take j)) g) c.at c.n:=by
 rw [take_snoc' h]
 unfold pts writeF
 rw [List.map_append,List.foldl_append];rfl
theorem pts_range {g:Pt→Int} (hg : ∀ p,0≤g p∧g p≤255) : ∀ (cs:List Chg),(∀ c∈cs,0≤c.n∧c.n≤255) → ∀ p,0≤writeF (pts cs) g p∧writeF (pts cs) g p≤255
 | [],_=>hg
 | c :: cs, h => by
   have hc:=h c (by simp)
   intro p
   show 0≤writeF (pts cs) (Tr.upd g c.at c.n) p∧writeF (pts cs) (Tr.upd g c.at c.n) p≤255
   exact pts_range (g:=Tr.upd g c.at c.n) (upd_range hg hc c.at) cs (fun x hx=>h x (by simp [hx])) p
attribute [local go_sem ↓] Go.wp_at_zero Go.wp_at_succ
set_option maxRecDepth 100000 in
set_option maxHeartbeats 4000000 in
theorem write10_any {N:Nat} (hN:N≤12) (ha:Option Addr) (hcp:Nat) (cs:List Chg) (hC:cs.length≤4194304) (hcap:cs.length≤hcp) (g:Pt→Int) (hg : ∀ p,0≤g p∧g p≤255) (w:World) (hcs:SlC w ha cs) :
 Calls Tryz.prog 60 #[.string (strOfNums (Tr.enc (trF N g))),.int .i64 ((N:Int)+2),.slice ha cs.length hcp] w (GSays10 (∀ c∈cs,okChg N c) (strOfNums (Tr.enc (trF N (writeF (pts cs) g)))) w):=by
 have Hcs:=Bx.mk hcs
 obtain ⟨M,hM⟩ : ∃ M:Int,M=2 ^ (N+2):=⟨_,rfl⟩
 have Hcub:=Bx.mk fun W=>cube9_zero (N+2) (by omega) W
 rw [show (((N+2:Nat)):Int)=(N:Int)+2 by omega,←hM] at Hcub
 have Hin:=Bx.mk fun px py pz W=>ref_in px py pz 0 0 0 M M M W
 have Hset:=Bx.mk fun f hf px py pz c hok W=>Set9_yes N hN f hf px py pz c hok W
 have HM:=Bx.mk hM
 have Hg:=Bx.mk hg
 obtain ⟨TX,hTX⟩ : ∃ TX:Nat→ByteArray,TX=fun k=>strOfNums (Tr.enc (trF N (writeF (pts (cs.take k)) g))):=⟨_,rfl⟩
 have e0:strOfNums (Tr.enc (trF N g))=TX 0:=by rw [hTX];rfl
 have HTX:=Bx.mk hTX
 rw [e0]
 clear hcs hg hM hTX e0
 go_enter Tryz.func60,Tryz.ntmps60
 go_wp2_with fail
 go_loopw [8] (fun v8 wr => ∃ j:Nat,j≤cs.length∧v8 = .int .i64 j∧Bx (Below w.heap.size w wr ∧ ∀ c∈cs.take j,okChg N c)) (fun i _=>cs.length - (intOf i).toNat)
 case atStart=>exact ⟨0,Nat.zero_le _,rfl,⟨Below.refl _ _,by simp⟩⟩
 case round =>
  obtain ⟨j,hj,rfl,hI⟩:=hrel
  by_cases hlt:j<cs.length
  · obtain ⟨⟨px,py,pz,po,pn⟩,hed⟩ : ∃ ed,cs[j]? = some ed:=⟨_,List.getElem?_eq_getElem hlt⟩
    have Hed:=Bx.mk hed
    obtain ⟨bk,off,rfl,c0,c1,c2,c3,c4⟩:=(Hcs.out.below hI.out.1) j _ hed
    dsimp only at c0 c1 c2 c3 c4
    have t0:decide ((j:Int)<(cs.length:Int))=true:=by simp;omega
    have b1:(0:Int)≤(j:Int):=by omega
    have b2:(j:Int)<(cs.length:Int):=by omega
    clear hed
    obtain ⟨inn,hinn⟩ : ∃ inn,inB ⟨px,py,pz⟩ ⟨⟨0,0,0⟩,⟨M,M,M⟩⟩=inn:=⟨_,rfl⟩
    have Hi:=Bx.mk fun W=>Hin.out px py pz W
    rw [hinn] at Hi
    have Hinn:Bx (inB ⟨px,py,pz⟩ (wholeB N)=inn):=⟨by rw [←hinn,HM.out];rfl⟩
    clear hinn
    go_upto_region 4 with fail
    have x0 : ∀ dk osk,(grow (redrawn wr dk) osk).cell? ⟨bk,off+j * 5,none⟩=some (.int .i64 px):=cell_regrown c0
    have x1 : ∀ dk osk,(grow (redrawn wr dk) osk).cell? ⟨bk,off+j * 5+1,none⟩=some (.int .i64 py):=cell_regrown c1
    have x2 : ∀ dk osk,(grow (redrawn wr dk) osk).cell? ⟨bk,off+j * 5+2,none⟩=some (.int .i64 pz):=cell_regrown c2
    have q0:=Bx.mk fun dk osk=>Calls.regrown_of (Hcub.out (grow (redrawn wr dk) osk))
    have q1:=Bx.mk fun dk osk=>Calls.regrown_of (Hi.out (grow (redrawn wr dk) osk))
    refine wp_region_quiet_below (by kernel_rfl) (by kernel_rfl) ?_
    repeat (first | go_big_quiet_step ((first | with_reducible exact q0.out _ _ | with_reducible exact q1.out _ _)) | quiet_step (first | with_reducible exact q0.out _ _ | with_reducible exact q1.out _ _))
    refine wpQuiet_nil ?_
    rintro _ ⟨⟨dq,osq⟩,rfl⟩
    have hb:=below_regrown wr dq osq
    have d4:(grow (redrawn wr dq) osq).cell? ⟨bk,off+j * 5+4,none⟩=some (.int .i64 pn):=cell_regrown c4 dq osq
    have HI:=Bx.mk (And.intro (hI.out.1.trans (hb.mono hI.out.1.size)) hI.out.2)
    clear x0 x1 x2 q0 q1 hb hI c0 c1 c2 c3 c4
    generalize grow (redrawn wr dq) osq=W1 at *
    cases inn with
    | false =>
      have HB:Bx (¬ ∀ c∈cs,okChg N c):=⟨fun h=>by
       have h1:=(h _ (List.mem_of_getElem? Hed.out)).1
       have h2:=Hinn.out
       rw [show (Chg.at ⟨px,py,pz,po,pn⟩)=⟨px,py,pz⟩ from rfl,h2] at h1;cases h1⟩
      go_wp2_with fail
      go_ret2
      exact ⟨HI.out.1,fun h=>absurd h HB.out,fun _=>rfl⟩
    | true =>
      by_cases h2:0≤pn
      · have t2:decide (pn<0)=false:=by simp;omega
        by_cases h3:pn≤255
        · have t3:decide (255<pn)=false:=by simp;omega
          have HJ:Bx (Below w.heap.size w W1 ∧ ∀ c∈cs.take (j+1),okChg N c):=⟨HI.out.1,fun c hc=>by
           rw [take_snoc' Hed.out] at hc
           rcases List.mem_append.1 hc with hc | hc
           · exact HI.out.2 c hc
           · rw [List.mem_singleton.1 hc];exact ⟨Hinn.out,h2,h3⟩⟩
          clear h2 h3 HI
          go_wp2_with fail
          go_roundw
          case rel=>exact ⟨j+1,by omega,by go_num,HJ⟩
          case measure=>simp [intOf];omega
        · have t3:decide (255<pn)=true:=by simp;omega
          have HB:Bx (¬ ∀ c∈cs,okChg N c):=⟨fun h=>h3 (h _ (List.mem_of_getElem? Hed.out)).2.2⟩
          clear h2 h3
          go_wp2_with fail
          go_ret2
          exact ⟨HI.out.1,fun h=>absurd h HB.out,fun _=>rfl⟩
      · have t2:decide (pn<0)=true:=by simp;omega
        have HB:Bx (¬ ∀ c∈cs,okChg N c):=⟨fun h=>h2 (h _ (List.mem_of_getElem? Hed.out)).2.1⟩
        clear h2
        go_wp2_with fail
        go_ret2
        exact ⟨HI.out.1,fun h=>absurd h HB.out,fun _=>rfl⟩
  · obtain rfl:j=cs.length:=by omega
    rw [List.take_of_length_le (Nat.le_refl _)] at hI
    have t0:decide ((cs.length:Int)<(cs.length:Int))=false:=by simp
    have HV:=Bx.mk hI.out.2
    have HB:=Bx.mk hI.out.1
    clear hI hlt hj
    go_wp2_with fail
    clear t0
    obtain ⟨wo,hwo⟩ : ∃ wo:World,wo=wr:=⟨_,rfl⟩
    rw [←hwo] at HB
    go_loopw [0,10] (fun v0 v10 wr => ∃ k:Nat,k≤cs.length∧v10 = .int .i64 k∧v0 = .string (TX k)∧Bx (Below w.heap.size w wr)) (fun _ i _=>cs.length - (intOf i).toNat)
    case atStart=>subst hwo;exact ⟨0,Nat.zero_le _,rfl,rfl,HB⟩
    case round =>
     clear HB hwo
     obtain ⟨k,hk,rfl,rfl,HB⟩:=hrel
     by_cases hlt:k<cs.length
     · obtain ⟨⟨px,py,pz,po,pn⟩,hed⟩ : ∃ ed,cs[k]? = some ed:=⟨_,List.getElem?_eq_getElem hlt⟩
       have hokc:=HV.out _ (List.mem_of_getElem? hed)
       obtain ⟨bk,off,rfl,c0,c1,c2,c3,c4⟩:=(Hcs.out.below HB.out) k _ hed
       dsimp only at c0 c1 c2 c3 c4
       have t0:decide ((k:Int)<(cs.length:Int))=true:=by simp;omega
       have b1:(0:Int)≤(k:Int):=by omega
       have b2:(k:Int)<(cs.length:Int):=by omega
       have hs:=Bx.mk fun W=>Hset.out (writeF (pts (cs.take k)) g) (pts_range Hg.out _ (fun c hc=>(HV.out c (List.mem_of_mem_take hc)).2)) px py pz pn hokc W
       rw [←pts_take hed g] at hs
       rw [show strOfNums (Tr.enc (trF N (writeF (pts (cs.take k)) g)))=TX k by rw [HTX.out],show strOfNums (Tr.enc (trF N (writeF (pts (cs.take (k+1))) g)))=TX (k+1) by rw [HTX.out]] at hs
       clear hed hokc
       go_upto_region 10 with fail
       have x0 : ∀ dk osk,(grow (redrawn wr dk) osk).cell? ⟨bk,off+k * 5,none⟩=some (.int .i64 px):=cell_regrown c0
       have x1 : ∀ dk osk,(grow (redrawn wr dk) osk).cell? ⟨bk,off+k * 5+1,none⟩=some (.int .i64 py):=cell_regrown c1
       have x2 : ∀ dk osk,(grow (redrawn wr dk) osk).cell? ⟨bk,off+k * 5+2,none⟩=some (.int .i64 pz):=cell_regrown c2
       have x4 : ∀ dk osk,(grow (redrawn wr dk) osk).cell? ⟨bk,off+k * 5+4,none⟩=some (.int .i64 pn):=cell_regrown c4
       have q0:=Bx.mk fun dk osk=>Calls.regrown_of (hs.out (grow (redrawn wr dk) osk))
       refine wp_region_quiet_below (by kernel_rfl) (by kernel_rfl) ?_
       repeat (first | go_big_quiet_step ((first | with_reducible exact q0.out _ _)) | quiet_step (first | with_reducible exact q0.out _ _))
       refine wpQuiet_nil ?_
       rintro _ ⟨⟨dq,osq⟩,rfl⟩
       have hb:=below_regrown wr dq osq
       have HJ:=Bx.mk (HB.out.trans (hb.mono HB.out.size))
       clear x0 x1 x2 x4 q0 hb HB c0 c1 c2 c3 c4 hs
       generalize grow (redrawn wr dq) osq=W1 at *
       go_wp2_with fail
       go_roundw
       case rel=>exact ⟨k+1,by omega,by go_num,rfl,HJ⟩
       case measure=>simp [intOf];omega
     · obtain rfl:k=cs.length:=by omega
       have t0:decide ((cs.length:Int)<(cs.length:Int))=false:=by simp
       have hR:Bx (TX cs.length=strOfNums (Tr.enc (trF N (writeF (pts cs) g)))):=⟨by rw [HTX.out];simp only [];rw [List.take_of_length_le (Nat.le_refl _)]⟩
       clear hlt hk
       go_wp2_with fail
       go_ret2
       exact ⟨HB.out,fun _=>by rw [←hR.out];rfl,fun h=>absurd HV.out h⟩
end
section
open Go.RowKit Go.Sort Go.Maps
open Oct
set_option maxRecDepth 100000 in
set_option maxHeartbeats 1000000 in
theorem play_1 (sb:Nat) (id dd:Int) (kd b0 b1 b2 b3 b4 b5 cell g0 g1 g2 g3 g4 g5:Int) (ga:Option Addr) (gn gc:Nat) (la:Option Addr) (ln lc:Nat) (c0 c1 c2 cl d0 d1 d2 dl:Int) (hk:kd=1) (w:World) (R:Ending→World→Prop) (hR : ∀ e W',R e W' → ∃ a b:Int,e=ret2 a b)
 (hF : ∀ W,Below w.heap.size w W→Calls Tryz.prog 49 #[.pointer (some ⟨sb,0,none⟩),id,dd,.agg #[b0,b1,b2,b3,b4,b5],cell] W R) :
 Calls Tryz.prog 13 #[.pointer (some ⟨sb,0,none⟩),id,dd,.agg #[kd,b0,b1,b2,b3,b4,b5,cell,g0,g1,g2,g3,g4,g5,.slice ga gn gc,.slice la ln lc,c0,c1,c2,cl,d0,d1,d2,dl]] w R:=by
 have t1:(kd == 1)=true:=by simp [hk]
 have t2:(kd == 2)=false:=by simp [hk]
 have t3:(kd == 3)=false:=by simp [hk]
 have HF:=Bx.mk hF
 have HR:=Bx.mk hR
 clear hF hR hk
 go_enter Tryz.func13,Tryz.ntmps13
 go_upto_region 1 with fail
 generalize hW:World.alloc w _=W
 have hB:=bl1 hW
 have kg:Bk W w.heap.size #[kd,b0,b1,b2,b3,b4,b5,cell,g0,g1,g2,g3,g4,g5,.slice ga gn gc,.slice la ln lc,c0,c1,c2,cl,d0,d1,d2,dl] 41:=bk0 hW
 clear hW
 obtain ⟨q0,q1,q2,q3,q4,q5,q6,q7,q8,q9,q10,q11⟩:=kg.c12
 have q12:=kg.cell 12 rfl
 have q13:=kg.cell 13 rfl
 have q14:=kg.cell 14 rfl
 have q15:=kg.cell 15 rfl
 have q16:=kg.cell 16 rfl
 have q17:=kg.cell 17 rfl
 have q18:=kg.cell 18 rfl
 have q19:=kg.cell 19 rfl
 have q20:=kg.cell 20 rfl
 have q21:=kg.cell 21 rfl
 have q22:=kg.cell 22 rfl
 have q23:=kg.cell 23 rfl
 have HQ:=Bx.mk (HF.out W hB)
 clear kg HF hB
 go_wp2_with fail
 refine HQ.out.mono ?_
 intro e W' hr
 obtain ⟨x,y,rfl⟩:=HR.out e W' hr
 have HRR:=Bx.mk hr
 clear hr HQ HR
 clear q0 q1 q2 q3 q4 q5 q6 q7 q8 q9 q10 q11 q12 q13 q14 q15 q16 q17 q18 q19 q20 q21 q22 q23
 go_wp2_with fail
 exact HRR.out
set_option maxRecDepth 100000 in
set_option maxHeartbeats 1000000 in
theorem play_2 (sb:Nat) (id dd:Int) (kd b0 b1 b2 b3 b4 b5 cell g0 g1 g2 g3 g4 g5:Int) (ga:Option Addr) (gn gc:Nat) (la:Option Addr) (ln lc:Nat) (c0 c1 c2 cl d0 d1 d2 dl:Int) (hk:kd=2) (w:World) (R:Ending→World→Prop) (hR : ∀ e W',R e W' → ∃ a b:Int,e=ret2 a b)
 (hF : ∀ W,Below w.heap.size w W→Calls Tryz.prog 55 #[.pointer (some ⟨sb,0,none⟩),id,dd,.agg #[g0,g1,g2,g3,g4,g5,.slice ga gn gc]] W R) :
 Calls Tryz.prog 13 #[.pointer (some ⟨sb,0,none⟩),id,dd,.agg #[kd,b0,b1,b2,b3,b4,b5,cell,g0,g1,g2,g3,g4,g5,.slice ga gn gc,.slice la ln lc,c0,c1,c2,cl,d0,d1,d2,dl]] w R:=by
 have t1:(kd == 1)=false:=by simp [hk]
 have t2:(kd == 2)=true:=by simp [hk]
 have t3:(kd == 3)=false:=by simp [hk]
 have HF:=Bx.mk hF
 have HR:=Bx.mk hR
 clear hF hR hk
 go_enter Tryz.func13,Tryz.ntmps13
 go_upto_region 1 with fail
 generalize hW:World.alloc w _=W
 have hB:=bl1 hW
 have kg:Bk W w.heap.size #[kd,b0,b1,b2,b3,b4,b5,cell,g0,g1,g2,g3,g4,g5,.slice ga gn gc,.slice la ln lc,c0,c1,c2,cl,d0,d1,d2,dl] 41:=bk0 hW
 clear hW
 obtain ⟨q0,q1,q2,q3,q4,q5,q6,q7,q8,q9,q10,q11⟩:=kg.c12
 have q12:=kg.cell 12 rfl
 have q13:=kg.cell 13 rfl
 have q14:=kg.cell 14 rfl
 have q15:=kg.cell 15 rfl
 have q16:=kg.cell 16 rfl
 have q17:=kg.cell 17 rfl
 have q18:=kg.cell 18 rfl
 have q19:=kg.cell 19 rfl
 have q20:=kg.cell 20 rfl
 have q21:=kg.cell 21 rfl
 have q22:=kg.cell 22 rfl
 have q23:=kg.cell 23 rfl
 have HQ:=Bx.mk (HF.out W hB)
 clear kg HF hB
 go_wp2_with fail
 refine HQ.out.mono ?_
 intro e W' hr
 obtain ⟨x,y,rfl⟩:=HR.out e W' hr
 have HRR:=Bx.mk hr
 clear hr HQ HR
 clear q0 q1 q2 q3 q4 q5 q6 q7 q8 q9 q10 q11 q12 q13 q14 q15 q16 q17 q18 q19 q20 q21 q22 q23
 go_wp2_with fail
 exact HRR.out
set_option maxRecDepth 100000 in
set_option maxHeartbeats 1000000 in
theorem play_3 (sb:Nat) (id dd:Int) (kd b0 b1 b2 b3 b4 b5 cell g0 g1 g2 g3 g4 g5:Int) (ga:Option Addr) (gn gc:Nat) (la:Option Addr) (ln lc:Nat) (c0 c1 c2 cl d0 d1 d2 dl:Int) (hk:kd=3) (w:World) (R:Ending→World→Prop) (hR : ∀ e W',R e W' → ∃ a b:Int,e=ret2 a b)
 (hF : ∀ W,Below w.heap.size w W→Calls Tryz.prog 52 #[.pointer (some ⟨sb,0,none⟩),id,dd,.slice la ln lc] W R) :
 Calls Tryz.prog 13 #[.pointer (some ⟨sb,0,none⟩),id,dd,.agg #[kd,b0,b1,b2,b3,b4,b5,cell,g0,g1,g2,g3,g4,g5,.slice ga gn gc,.slice la ln lc,c0,c1,c2,cl,d0,d1,d2,dl]] w R:=by
 have t1:(kd == 1)=false:=by simp [hk]
 have t2:(kd == 2)=false:=by simp [hk]
 have t3:(kd == 3)=true:=by simp [hk]
 have HF:=Bx.mk hF
 have HR:=Bx.mk hR
 clear hF hR hk
 go_enter Tryz.func13,Tryz.ntmps13
 go_upto_region 1 with fail
 generalize hW:World.alloc w _=W
 have hB:=bl1 hW
 have kg:Bk W w.heap.size #[kd,b0,b1,b2,b3,b4,b5,cell,g0,g1,g2,g3,g4,g5,.slice ga gn gc,.slice la ln lc,c0,c1,c2,cl,d0,d1,d2,dl] 41:=bk0 hW
 clear hW
 obtain ⟨q0,q1,q2,q3,q4,q5,q6,q7,q8,q9,q10,q11⟩:=kg.c12
 have q12:=kg.cell 12 rfl
 have q13:=kg.cell 13 rfl
 have q14:=kg.cell 14 rfl
 have q15:=kg.cell 15 rfl
 have q16:=kg.cell 16 rfl
 have q17:=kg.cell 17 rfl
 have q18:=kg.cell 18 rfl
 have q19:=kg.cell 19 rfl
 have q20:=kg.cell 20 rfl
 have q21:=kg.cell 21 rfl
 have q22:=kg.cell 22 rfl
 have q23:=kg.cell 23 rfl
 have HQ:=Bx.mk (HF.out W hB)
 clear kg HF hB
 go_wp2_with fail
 refine HQ.out.mono ?_
 intro e W' hr
 obtain ⟨x,y,rfl⟩:=HR.out e W' hr
 have HRR:=Bx.mk hr
 clear hr HQ HR
 clear q0 q1 q2 q3 q4 q5 q6 q7 q8 q9 q10 q11 q12 q13 q14 q15 q16 q17 q18 q19 q20 q21 q22 q23
 go_wp2_with fail
 exact HRR.out
set_option maxRecDepth 100000 in
set_option maxHeartbeats 1000000 in
theorem told_1 (S:ByteArray) (dd:Int) (kd b0 b1 b2 b3 b4 b5 cell g0 g1 g2 g3 g4 g5:Int) (ga:Option Addr) (gn gc:Nat) (la:Option Addr) (ln lc:Nat) (c0 c1 c2 cl d0 d1 d2 dl:Int) (hk:kd=1) (w:World) (R:Ending→World→Prop) (hR : ∀ e W',R e W' → ∃ (S:ByteArray) (b:Int),e = .returned (.tuple #[.string S,b]))
 (hF : ∀ W,Below w.heap.size w W→Calls Tryz.prog 58 #[.string S,dd,.agg #[b0,b1,b2,b3,b4,b5],cell] W R) :
 Calls Tryz.prog 14 #[.string S,dd,.agg #[kd,b0,b1,b2,b3,b4,b5,cell,g0,g1,g2,g3,g4,g5,.slice ga gn gc,.slice la ln lc,c0,c1,c2,cl,d0,d1,d2,dl]] w R:=by
 have t1:(kd == 1)=true:=by simp [hk]
 have t2:(kd == 2)=false:=by simp [hk]
 have t3:(kd == 3)=false:=by simp [hk]
 have HF:=Bx.mk hF
 have HR:=Bx.mk hR
 clear hF hR hk
 go_enter Tryz.func14,Tryz.ntmps14
 go_upto_region 1 with fail
 generalize hW:World.alloc w _=W
 have hB:=bl1 hW
 have kg:Bk W w.heap.size #[kd,b0,b1,b2,b3,b4,b5,cell,g0,g1,g2,g3,g4,g5,.slice ga gn gc,.slice la ln lc,c0,c1,c2,cl,d0,d1,d2,dl] 41:=bk0 hW
 clear hW
 obtain ⟨q0,q1,q2,q3,q4,q5,q6,q7,q8,q9,q10,q11⟩:=kg.c12
 have q12:=kg.cell 12 rfl
 have q13:=kg.cell 13 rfl
 have q14:=kg.cell 14 rfl
 have q15:=kg.cell 15 rfl
 have q16:=kg.cell 16 rfl
 have q17:=kg.cell 17 rfl
 have q18:=kg.cell 18 rfl
 have q19:=kg.cell 19 rfl
 have q20:=kg.cell 20 rfl
 have q21:=kg.cell 21 rfl
 have q22:=kg.cell 22 rfl
 have q23:=kg.cell 23 rfl
 have HQ:=Bx.mk (HF.out W hB)
 clear kg HF hB
 go_wp2_with fail
 refine HQ.out.mono ?_
 intro e W' hr
 obtain ⟨x,y,rfl⟩:=HR.out e W' hr
 have HRR:=Bx.mk hr
 clear hr HQ HR
 clear q0 q1 q2 q3 q4 q5 q6 q7 q8 q9 q10 q11 q12 q13 q14 q15 q16 q17 q18 q19 q20 q21 q22 q23
 go_wp2_with fail
 exact HRR.out
set_option maxRecDepth 100000 in
set_option maxHeartbeats 1000000 in
theorem told_3 (S:ByteArray) (dd:Int) (kd b0 b1 b2 b3 b4 b5 cell g0 g1 g2 g3 g4 g5:Int) (ga:Option Addr) (gn gc:Nat) (la:Option Addr) (ln lc:Nat) (c0 c1 c2 cl d0 d1 d2 dl:Int) (hk:kd=3) (w:World) (R:Ending→World→Prop) (hR : ∀ e W',R e W' → ∃ (S:ByteArray) (b:Int),e = .returned (.tuple #[.string S,b]))
 (hF : ∀ W,Below w.heap.size w W→Calls Tryz.prog 60 #[.string S,dd,.slice la ln lc] W R) :
 Calls Tryz.prog 14 #[.string S,dd,.agg #[kd,b0,b1,b2,b3,b4,b5,cell,g0,g1,g2,g3,g4,g5,.slice ga gn gc,.slice la ln lc,c0,c1,c2,cl,d0,d1,d2,dl]] w R:=by
 have t1:(kd == 1)=false:=by simp [hk]
 have t2:(kd == 2)=false:=by simp [hk]
 have t3:(kd == 3)=true:=by simp [hk]
 have HF:=Bx.mk hF
 have HR:=Bx.mk hR
 clear hF hR hk
 go_enter Tryz.func14,Tryz.ntmps14
 go_upto_region 1 with fail
 generalize hW:World.alloc w _=W
 have hB:=bl1 hW
 have kg:Bk W w.heap.size #[kd,b0,b1,b2,b3,b4,b5,cell,g0,g1,g2,g3,g4,g5,.slice ga gn gc,.slice la ln lc,c0,c1,c2,cl,d0,d1,d2,dl] 41:=bk0 hW
 clear hW
 obtain ⟨q0,q1,q2,q3,q4,q5,q6,q7,q8,q9,q10,q11⟩:=kg.c12
 have q12:=kg.cell 12 rfl
 have q13:=kg.cell 13 rfl
 have q14:=kg.cell 14 rfl
 have q15:=kg.cell 15 rfl
 have q16:=kg.cell 16 rfl
 have q17:=kg.cell 17 rfl
 have q18:=kg.cell 18 rfl
 have q19:=kg.cell 19 rfl
 have q20:=kg.cell 20 rfl
 have q21:=kg.cell 21 rfl
 have q22:=kg.cell 22 rfl
 have q23:=kg.cell 23 rfl
 have HQ:=Bx.mk (HF.out W hB)
 clear kg HF hB
 go_wp2_with fail
 refine HQ.out.mono ?_
 intro e W' hr
 obtain ⟨x,y,rfl⟩:=HR.out e W' hr
 have HRR:=Bx.mk hr
 clear hr HQ HR
 clear q0 q1 q2 q3 q4 q5 q6 q7 q8 q9 q10 q11 q12 q13 q14 q15 q16 q17 q18 q19 q20 q21 q22 q23
 go_wp2_with fail
 exact HRR.out
set_option maxRecDepth 100000 in
set_option maxHeartbeats 1000000 in
theorem told_2 (S:ByteArray) (dd:Int) (kd b0 b1 b2 b3 b4 b5 cell g0 g1 g2 g3 g4 g5:Int) (ga:Option Addr) (gn gc:Nat) (la:Option Addr) (ln lc:Nat) (c0 c1 c2 cl d0 d1 d2 dl:Int) (hk:kd=2) (w:World) (R:Ending→World→Prop) (T:ByteArray)
 (hF : ∀ W,Below w.heap.size w W→Calls Tryz.prog 59 #[.string S,dd,.agg #[g0,g1,g2,g3,g4,g5,.slice ga gn gc]] W fun e W'=>e = .returned (.string T)∧R (.returned (.tuple #[.string T,(0:Int)])) W') :
 Calls Tryz.prog 14 #[.string S,dd,.agg #[kd,b0,b1,b2,b3,b4,b5,cell,g0,g1,g2,g3,g4,g5,.slice ga gn gc,.slice la ln lc,c0,c1,c2,cl,d0,d1,d2,dl]] w R:=by
 have t1:(kd == 1)=false:=by simp [hk]
 have t2:(kd == 2)=true:=by simp [hk]
 have t3:(kd == 3)=false:=by simp [hk]
 have HF:=Bx.mk hF
 clear hF hk
 go_enter Tryz.func14,Tryz.ntmps14
 go_upto_region 1 with fail
 generalize hW:World.alloc w _=W
 have hB:=bl1 hW
 have kg:Bk W w.heap.size #[kd,b0,b1,b2,b3,b4,b5,cell,g0,g1,g2,g3,g4,g5,.slice ga gn gc,.slice la ln lc,c0,c1,c2,cl,d0,d1,d2,dl] 41:=bk0 hW
 clear hW
 obtain ⟨q0,q1,q2,q3,q4,q5,q6,q7,q8,q9,q10,q11⟩:=kg.c12
 have q12:=kg.cell 12 rfl
 have q13:=kg.cell 13 rfl
 have q14:=kg.cell 14 rfl
 have q15:=kg.cell 15 rfl
 have q16:=kg.cell 16 rfl
 have q17:=kg.cell 17 rfl
 have q18:=kg.cell 18 rfl
 have q19:=kg.cell 19 rfl
 have q20:=kg.cell 20 rfl
 have q21:=kg.cell 21 rfl
 have q22:=kg.cell 22 rfl
 have q23:=kg.cell 23 rfl
 have HQ:=Bx.mk (HF.out W hB)
 clear kg HF hB
 go_wp2_with fail
 refine HQ.out.mono ?_
 intro e W' hr
 obtain ⟨rfl,hr⟩:=hr
 have HRR:=Bx.mk hr
 clear hr HQ
 clear q0 q1 q2 q3 q4 q5 q6 q7 q8 q9 q10 q11 q12 q13 q14 q15 q16 q17 q18 q19 q20 q21 q22 q23
 go_wp2_with fail
 exact HRR.out
set_option maxRecDepth 100000 in
set_option maxHeartbeats 1000000 in
theorem play_4 (sb:Nat) (id dd:Int) (kd b0 b1 b2 b3 b4 b5 cell g0 g1 g2 g3 g4 g5:Int) (ga:Option Addr) (gn gc:Nat) (la:Option Addr) (ln lc:Nat) (c0 c1 c2 cl d0 d1 d2 dl:Int) (hk:kd ≠ 1∧kd ≠ 2∧kd ≠ 3) (w:World) (R:Ending→World→Prop) (hR : ∀ e W',R e W' → ∃ a b:Int,e=ret2 a b)
 (hF : ∀ W,Below w.heap.size w W→Calls Tryz.prog 38 #[.pointer (some ⟨sb,0,none⟩),id,dd,.agg #[c0,c1,c2],cl] W fun e W'=>Below W.heap.size W W'∧((e=ret2 0 1∧R e W') ∨ ∃ p,e=ret2 p 0∧Calls Tryz.prog 53 #[.pointer (some ⟨sb,0,none⟩),id,dd,.agg #[d0,d1,d2,dl],p] W' R)) :
 Calls Tryz.prog 13 #[.pointer (some ⟨sb,0,none⟩),id,dd,.agg #[kd,b0,b1,b2,b3,b4,b5,cell,g0,g1,g2,g3,g4,g5,.slice ga gn gc,.slice la ln lc,c0,c1,c2,cl,d0,d1,d2,dl]] w R:=by
 have t1:(kd == 1)=false:=by simp;omega
 have t2:(kd == 2)=false:=by simp;omega
 have t3:(kd == 3)=false:=by simp;omega
 have HF:=Bx.mk hF
 have HR:=Bx.mk hR
 clear hF hR hk
 go_enter Tryz.func13,Tryz.ntmps13
 go_upto_region 1 with fail
 generalize hW:World.alloc w _=W
 have hB:=bl1 hW
 have kg:Bk W w.heap.size #[kd,b0,b1,b2,b3,b4,b5,cell,g0,g1,g2,g3,g4,g5,.slice ga gn gc,.slice la ln lc,c0,c1,c2,cl,d0,d1,d2,dl] 41:=bk0 hW
 clear hW
 obtain ⟨q0,q1,q2,q3,q4,q5,q6,q7,q8,q9,q10,q11⟩:=kg.c12
 have q12:=kg.cell 12 rfl
 have q13:=kg.cell 13 rfl
 have q14:=kg.cell 14 rfl
 have q15:=kg.cell 15 rfl
 have q16:=kg.cell 16 rfl
 have q17:=kg.cell 17 rfl
 have q18:=kg.cell 18 rfl
 have q19:=kg.cell 19 rfl
 have q20:=kg.cell 20 rfl
 have q21:=kg.cell 21 rfl
 have q22:=kg.cell 22 rfl
 have q23:=kg.cell 23 rfl
 have HQ:=Bx.mk (HF.out W hB)
 have KG:=Bx.mk kg
 clear kg HF hB
 go_wp2_with fail
 refine HQ.out.mono ?_
 rintro e W1 ⟨hb1,⟨rfl,hr⟩ | ⟨p,rfl,hg⟩⟩
 · have HRR:=Bx.mk hr
   clear hr HQ HR hb1 KG
   clear q0 q1 q2 q3 q4 q5 q6 q7 q8 q9 q10 q11 q12 q13 q14 q15 q16 q17 q18 q19 q20 q21 q22 q23
   go_wp2_with fail
   exact HRR.out
 · have HG:=Bx.mk hg
   have kg:=KG.out.later hb1
   clear hg HQ hb1 KG
   clear q0 q1 q2 q3 q4 q5 q6 q7 q8 q9 q10 q11 q12 q13 q14 q15 q16 q17 q18 q19 q20 q21 q22 q23
   have q20:=kg.cell 20 rfl
   have q21:=kg.cell 21 rfl
   have q22:=kg.cell 22 rfl
   have q23:=kg.cell 23 rfl
   clear kg
   go_wp2_with fail
   refine HG.out.mono ?_
   intro e W' hr
   obtain ⟨x,y,rfl⟩:=HR.out e W' hr
   have HRR:=Bx.mk hr
   clear hr HG HR q20 q21 q22 q23
   go_wp2_with fail
   exact HRR.out
set_option maxRecDepth 100000 in
set_option maxHeartbeats 1000000 in
theorem told_4 (S:ByteArray) (dd:Int) (kd b0 b1 b2 b3 b4 b5 cell g0 g1 g2 g3 g4 g5:Int) (ga:Option Addr) (gn gc:Nat) (la:Option Addr) (ln lc:Nat) (c0 c1 c2 cl d0 d1 d2 dl:Int) (hk:kd ≠ 1∧kd ≠ 2∧kd ≠ 3) (w:World) (R:Ending→World→Prop) (hR : ∀ e W',R e W' → ∃ (S:ByteArray) (b:Int),e = .returned (.tuple #[.string S,b]))
 (hF : ∀ W,Below w.heap.size w W→Calls Tryz.prog 61 #[.string S,dd,.agg #[c0,c1,c2],cl] W fun e W'=>Below W.heap.size W W'∧((e = .returned (.tuple #[.string ByteArray.empty,(1:Int)])∧R e W') ∨ ∃ p,e = .returned (.tuple #[.string p,(0:Int)])∧Calls Tryz.prog 62 #[.string S,dd,.agg #[d0,d1,d2,dl],.string p] W' R)) :
 Calls Tryz.prog 14 #[.string S,dd,.agg #[kd,b0,b1,b2,b3,b4,b5,cell,g0,g1,g2,g3,g4,g5,.slice ga gn gc,.slice la ln lc,c0,c1,c2,cl,d0,d1,d2,dl]] w R:=by
 have t1:(kd == 1)=false:=by simp;omega
 have t2:(kd == 2)=false:=by simp;omega
 have t3:(kd == 3)=false:=by simp;omega
 have HF:=Bx.mk hF
 have HR:=Bx.mk hR
 clear hF hR hk
 go_enter Tryz.func14,Tryz.ntmps14
 go_upto_region 1 with fail
 generalize hW:World.alloc w _=W
 have hB:=bl1 hW
 have kg:Bk W w.heap.size #[kd,b0,b1,b2,b3,b4,b5,cell,g0,g1,g2,g3,g4,g5,.slice ga gn gc,.slice la ln lc,c0,c1,c2,cl,d0,d1,d2,dl] 41:=bk0 hW
 clear hW
 obtain ⟨q0,q1,q2,q3,q4,q5,q6,q7,q8,q9,q10,q11⟩:=kg.c12
 have q12:=kg.cell 12 rfl
 have q13:=kg.cell 13 rfl
 have q14:=kg.cell 14 rfl
 have q15:=kg.cell 15 rfl
 have q16:=kg.cell 16 rfl
 have q17:=kg.cell 17 rfl
 have q18:=kg.cell 18 rfl
 have q19:=kg.cell 19 rfl
 have q20:=kg.cell 20 rfl
 have q21:=kg.cell 21 rfl
 have q22:=kg.cell 22 rfl
 have q23:=kg.cell 23 rfl
 have HQ:=Bx.mk (HF.out W hB)
 have KG:=Bx.mk kg
 clear kg HF hB
 go_wp2_with fail
 refine HQ.out.mono ?_
 rintro e W1 ⟨hb1,⟨rfl,hr⟩ | ⟨p,rfl,hg⟩⟩
 · have HRR:=Bx.mk hr
   clear hr HQ HR hb1 KG
   clear q0 q1 q2 q3 q4 q5 q6 q7 q8 q9 q10 q11 q12 q13 q14 q15 q16 q17 q18 q19 q20 q21 q22 q23
   go_wp2_with fail
   exact HRR.out
 · have HG:=Bx.mk hg
   have kg:=KG.out.later hb1
   clear hg HQ hb1 KG
   clear q0 q1 q2 q3 q4 q5 q6 q7 q8 q9 q10 q11 q12 q13 q14 q15 q16 q17 q18 q19 q20 q21 q22 q23
   have q20:=kg.cell 20 rfl
   have q21:=kg.cell 21 rfl
   have q22:=kg.cell 22 rfl
   have q23:=kg.cell 23 rfl
   clear kg
   go_wp2_with fail
   refine HG.out.mono ?_
   intro e W' hr
   obtain ⟨x,y,rfl⟩:=HR.out e W' hr
   have HRR:=Bx.mk hr
   clear hr HG HR q20 q21 q22 q23
   go_wp2_with fail
   exact HRR.out
end
section
open Go.RowKit Go.Sort Go.Maps
open Oct
theorem cube4_any (M:Int) (w:World):Calls Tryz.prog 29 #[M] w fun e w'=>e = .returned (.agg #[(0:Int),(0:Int),(0:Int),M,M,M])∧Below w.heap.size w w':=by
 go_enter Tryz.func29,Tryz.ntmps29
 go_wp2_with fail
 exact bodyPost_ret (v:=.agg #[(0:Int),(0:Int),(0:Int),M,M,M]) (by simp [results,Tryz.results29,go_sem]) rfl ⟨rfl,(Below.refl _ _).alloc (Nat.le_refl _) _⟩
def wideP (n:Nat) (b:Box):Bool:=volB (meetB b (cubeB (2 ^ (n+2)))) == volB (cubeB (2 ^ (n+2)))
set_option maxRecDepth 100000 in
set_option maxHeartbeats 1000000 in
theorem wide_any (n:Nat) (hn:n≤12) (b0 b1 b2 b3 b4 b5:Int) (w:World) :
 Calls Tryz.prog 46 #[.agg #[b0,b1,b2,b3,b4,b5],.int .i64 ((n:Int)+2)] w fun e w'=>e = .returned (.bool (wideP n ⟨⟨b0,b1,b2⟩,⟨b3,b4,b5⟩⟩))∧Below w.heap.size w w':=by
 have hp:=pow_le (show n+2≤14 by omega)
 have hpw:=pow_wrap (show n+2≤14 by omega)
 have hsh0:Op.shift .shl .i64 1 .i64 ((n:Int)+2)=pure (.int .i64 ((2:Int) ^ (n+2))):=by
  have h:=shift_shl .i64 .i64 1 ((n:Int)+2) (by omega) (by show (n:Int)+2≤64;omega)
  rw [show ((n:Int)+2).toNat=n+2 by omega,Int.one_mul,hpw] at h
  exact h
 have hct:=Bx.mk fun W=>ref_contains b0 b1 b2 b3 b4 b5 0 0 0 (2 ^ (n+2)) (2 ^ (n+2)) (2 ^ (n+2)) ⟨by simp only [];omega,by simp only [];omega,by simp only [];omega,by simp only [];omega,by simp only [];omega,by simp only [];omega⟩ W
 have hwd:wideP n ⟨⟨b0,b1,b2⟩,⟨b3,b4,b5⟩⟩=(volB (meetB ⟨⟨b0,b1,b2⟩,⟨b3,b4,b5⟩⟩ ⟨⟨0,0,0⟩,⟨2 ^ (n+2),2 ^ (n+2),2 ^ (n+2)⟩⟩) == volB ⟨⟨0,0,0⟩,⟨2 ^ (n+2),2 ^ (n+2),2 ^ (n+2)⟩⟩):=rfl
 rw [←hwd] at hct
 generalize wideP n ⟨⟨b0,b1,b2⟩,⟨b3,b4,b5⟩⟩=r at *
 have hcu:=Bx.mk fun W=>cube4_any (2 ^ (n+2)) W
 generalize (2:Int) ^ (n+2)=M at *
 have HSH:=Bx.mk hsh0
 clear hp hpw hwd hsh0 hn
 go_enter Tryz.func46,Tryz.ntmps46
 go_upto_region 1 with fail
 generalize hW:World.alloc w _=W
 have hB:=bl1 hW
 have KB:=Bx.mk (show Bk W w.heap.size #[b0,b1,b2,b3,b4,b5] 25 by rw [←hW];exact blk_new _ _ _ (by simp))
 clear hW
 refine wp_region_relT 4 (fun i v w'=>match i with
  | 0=>v = .agg #[b0,b1,b2,b3,b4,b5]
  | 1=>v = .int .i64 ((n:Int)+2)
  | 2=>v = .int .i64 M
  | _=>v = .agg #[(0:Int),(0:Int),(0:Int),M,M,M]) (by kernel_rfl) (by kernel_rfl) 10 (by kernel_rfl) (by rfl) ?_ ?_ ?_
 · intro i hi v u1 u2 hb h
   match i,hi with
   | 0,_=>exact h
   | 1,_=>exact h
   | 2,_=>exact h
   | 3,_=>exact h
 · intro i o hi ho ρ w1 hb hc1 hc2 hc3 hk
   match i,hi with
   | 0, _ =>
     obtain rfl:=Option.some.inj ho
     have g0:ρ (.tmp 2) = .pointer (some ⟨w.heap.size,0,none⟩):=hk 2 (by simp [Op.operands,Call.operands])
     have k1:=KB.out.later hb
     obtain ⟨z0,z1,z2,z3,z4,z5⟩:=k1.c6
     clear hk hb hcu HSH KB hct hB
     go_simp
     exact Below.refl _ _
   | 1, _ =>
     obtain rfl:=Option.some.inj ho
     have g0:ρ (.tmp 1) = .int .i64 ((n:Int)+2):=hk 1 (by simp [Op.operands,Call.operands])
     clear hk hb hcu HSH KB hct hB
     go_simp
     exact Below.refl _ _
   | 2, _ =>
     obtain rfl:=Option.some.inj ho
     have g0:ρ (.tmp 6) = .int .i64 ((n:Int)+2):=hk 6 (by simp [Op.operands,Call.operands])
     have e1:=HSH.out
     clear hk hb hcu HSH KB hct hB
     go_simp
     exact Below.refl _ _
   | 3, _ =>
     obtain rfl:=Option.some.inj ho
     have g0:ρ (.tmp 7) = .int .i64 M:=hk 7 (by simp [Op.operands,Call.operands])
     have h4:=hcu.out w1
     have H4:=Bx.mk h4
     clear h4
     clear hk hb hcu HSH KB hct hB
     go_simp
     all_goals exact H4.out
 · intro vs W1 hlen hb hR
   match vs,hlen with
   | [v0, v1, v2, v3], _ =>
     have r0:v0 = .agg #[b0,b1,b2,b3,b4,b5]:=hR 0 v0 rfl
     have r1:v1 = .int .i64 ((n:Int)+2):=hR 1 v1 rfl
     have r2:v2 = .int .i64 M:=hR 2 v2 rfl
     have r3:v3 = .agg #[(0:Int),(0:Int),(0:Int),M,M,M]:=hR 3 v3 rfl
     clear hR
     subst r0 r1 r2 r3
     have HQ:=Bx.mk (hct.out W1)
     have HB:=Bx.mk (hB.trans (hb.mono hB.size))
     clear hb hB KB hct hcu HSH
     simp only [puts,List.take_succ_cons,List.take_zero,List.drop_succ_cons,List.drop_zero,List.map_cons,List.map_nil,List.zip_cons_cons,List.zip_nil_right,List.foldl_cons,List.foldl_nil]
     go_wp2_with fail
     refine HQ.out.mono ?_
     rintro _ w5 ⟨rfl,hb5⟩
     have HB5:=Bx.mk (HB.out.trans (hb5.mono HB.out.size))
     clear hb5 HB HQ
     go_wp2_with fail
     go_ret
     exact ⟨rfl,HB5.out⟩
end
section
open Go.RowKit
def Bl (w:World) (b:Nat) (k:IntKind) (xs:List Int) (t:TypeId):Prop:=Bk w b (xs.map (Value.int k)).toArray t
section
variable {w w':World} {b:Nat} {k:IntKind} {xs:List Int} {t:TypeId}
theorem Bl.lt (h:Bl w b k xs t):b<w.heap.size:=Bk.lt h
theorem Bl.cell (h:Bl w b k xs t) {i:Nat} {x:Int} (hx:xs[i]? = some x):w.cell? ⟨b,i,none⟩=some (.int k x):=by
 refine Bk.cell h i ?_
 rw [List.getElem?_toArray,List.getElem?_map,hx];rfl
theorem Bl.frozen (h:Bl w b k xs t) (i:Nat):w.frozen? ⟨b,i,none⟩=false:=Bk.frozen h i
theorem Bl.later (h:Bl w b k xs t) (hb:Below w.heap.size w w'):Bl w' b k xs t:=Bk.later h hb
theorem Bl.alloc (h:Bl w b k xs t) (o:Obj):Bl (w.alloc o) b k xs t:=Bk.alloc h o
theorem Bl.put (h:Bl w b k xs t) (i:Nat) (v:Int):Bl (w.setCell ⟨b,i,none⟩ (.int k v)) b k (xs.set i v) t:=by
 have:=Bk.set h i (.int k v)
 unfold Bl
 rw [List.map_set]
 rwa [List.setIfInBounds_toArray] at this
theorem Bl.other (h:Bl w b k xs t) (a:Addr) (v:Value) (hne:b ≠ a.block):Bl (w.setCell a v) b k xs t:=Bk.other h a v hne
theorem Bl.whole (h:Bl w b k xs t) (ys:List Int):Bl (w.setRow b (ys.map (Value.int k)).toArray) b k ys t:=setRow_heap w b _ _ t (0,0) h
theorem Bl.apart (h:Bl w b k xs t) {g:Nat} (cs:Array Value) (hne:b ≠ g):Bl (w.setRow g cs) b k xs t:=by
 unfold Bl Bk at *
 rw [setRow_other w g b cs hne];exact h
end
theorem wpList_load_whole {P:Program} {ops:Array Oper} {rest:List Oper} {op:Oper} {a:Act} {w:World} {Q:Exit→Act→World→Prop} (hgd:op.guard=none) (ty:TypeId) (x:Operand) (ho:op.op = .load ty x)
 (g:Nat) (hx:a.eval x = .pointer (some ⟨g,0,none⟩)) (cs:Array Value) (t:TypeId) (hg:w.heap[g]? = some (.cells cs t (0,0))) (d:TypeDesc)
 (hu:P.underlying ty=some d) (hd:(match d with | .struct _ | .array _ _=>true | _=>false)=true) (hi:(P.info? ty).map (·.size)=some cs.size)
 (h:wpList P ops Q rest (a.put op.dst (.agg cs)) w):wpList P ops Q (op::rest) a w:=by
 refine wpList_plain hgd fun K hK=>?_
 unfold Oper.wp execOp
 simp only [ho,hx,Instr.loadAt,Instr.sureAddr,Sem.run_bind,Sem.run_pure,Result.andThen_ok,run_loadVar_row w g t ty cs (0,0) d hg hu hd hi]
 exact hK _ _ h
theorem wpList_store_whole {P:Program} {ops:Array Oper} {rest:List Oper} {op:Oper} {a:Act} {w:World} {Q:Exit→Act→World→Prop} (hgd:op.guard=none) (ty:TypeId) (x y:Operand) (ho:op.op = .store ty x y)
 (g:Nat) (hx:a.eval x = .pointer (some ⟨g,0,none⟩)) (cs cs':Array Value) (hy:a.eval y = .agg cs') (t:TypeId) (hg:w.heap[g]? = some (.cells cs t (0,0)))
 (hi:(P.info? ty).map (·.size)=some cs'.size) (hs:cs.size=cs'.size) (h1:cs'.all (·.oneCell')=true)
 (h:wpList P ops Q rest (a.put op.dst undef) (w.setRow g cs')):wpList P ops Q (op::rest) a w:=by
 refine wpList_plain hgd fun K hK=>?_
 unfold Oper.wp execOp
 have hr:=run_storeVar_row (P:=P) w g t ty cs cs' hg hi hs h1
 simp only [ho,hx,hy,Instr.storeAt,Instr.sureAddr,Sem.run_bind,Sem.run_pure,Result.andThen_ok,hr]
 exact hK _ _ h
end
end Go.Proofs.YtfcbajmjaifjlaaGreat
