/- Frm, Set: joined by program, for one claim. -/
import Derived.Test.YtgnfgblkpnfcnaaGreatDoorMr
import Derived.Test.YtgnfgblkpnfcnaaGreatDoorM15
import Derived.Laws.EntriesVeiled
import Derived.Test.YtgnfgblkpnfcnaaGreatDoorM12
set_option linter.unusedVariables false
set_option linter.unusedSimpArgs false
namespace Go.Proofs.YtgnfgblkpnfcnaaGreatDoor
section
open Go.RowKit Go.Sort Go.Maps
open Oct
theorem al_zero (n:Nat):Tr.Al n ⟨0,0,0⟩:=by unfold Tr.Al;simp
set_option maxHeartbeats 1000000 in
theorem from2_any (w:World) (Far:Nat→Prop) (pg ps pb sb:Nat) (a b c d e f:Int) (ha:Option Addr) (hcp:Nat) (xs:List Int) (HC:Bx (BCtx w Far pg ps pb sb a b c d e f ha hcp xs)) (HX:GoodH ⟨⟨a,b,c⟩,⟨d,e,f⟩⟩ xs hcp) (pd n:Nat) (hn:n≤12) (kd:Bk w pd #[.int .i64 ((n:Int)+2)] 3) (most:Int) (ts:List Tr) (hG:Good ts) (hlen:(Tr.add (Tr.can (cellG ⟨⟨a,b,c⟩,⟨d,e,f⟩⟩ xs) n ⟨0,0,0⟩) ts).length≤1000000000000) (hFar : ∀ k,Far k→k<w.heap.size) (hS:StoreIs w Far sb most ts) :
 Calls Tryz.prog 86 #[.pointer (some ⟨pb,0,none⟩),.pointer (some ⟨pd,0,none⟩)] w (Grew Far sb most ts (Tr.add (Tr.can (cellG ⟨⟨a,b,c⟩,⟨d,e,f⟩⟩ xs) n ⟨0,0,0⟩) ts) (Tr.can (cellG ⟨⟨a,b,c⟩,⟨d,e,f⟩⟩ xs) n ⟨0,0,0⟩) w):=by
 have hp:=pow_le (show n+2≤14 by omega)
 have hb:=Bx.mk (build_any n hn w Far pg ps pb sb a b c d e f ha hcp xs HC HX 0 0 0 (al_zero n) (by omega) (by omega) (by omega) most ts hG hlen hFar hS)
 have cd:=kd.cell 0 rfl
 have cb:=HC.out.kb.cell 0 rfl
 clear kd hp hlen hG hFar hS HX
 generalize (Tr.can (cellG ⟨⟨a,b,c⟩,⟨d,e,f⟩⟩ xs) n ⟨0,0,0⟩)=T at *
 go_enter Tryz.func86,Tryz.ntmps86
 go_wp2_with fail
 refine hb.out.mono ?_
 rintro e w1 hg
 have Hg:=Bx.mk hg
 obtain ⟨-,-,(⟨hf,rfl,hs⟩ | ⟨hf,rfl,us,hs⟩)⟩:=hg
 all_goals
  clear hf hs
  go_wp2_with fail
  go_ret2
  exact Hg.out
theorem Done.since {w W w':World} {Far Far':Nat→Prop} {sb:Nat} {most:Int} {ts ts':List Tr} {t:Tr} {e:Ending} (h:Done Far' sb most ts ts' t W e w') (hb:Below w.heap.size w W) (hf : ∀ k,Far k→Far' k):Done Far sb most ts ts' t w e w':=by
 refine ⟨(Keeps.below hb).trans (h.keeps.less hf),Nat.le_trans hb.size h.size,?_⟩
 rcases h.way with ⟨h1,h2,h3⟩ | ⟨h1,h2,h3⟩
 · exact .inl ⟨h1,h2,h3.less hf⟩
 · exact .inr ⟨h1,h2,h3.less hf⟩
set_option maxRecDepth 100000 in
set_option maxHeartbeats 1000000 in
theorem from_emp (w:World) (sb:Nat) (a b c d e f:Int) (ha:Option Addr) (hcp:Nat) (xs:List Int) (n:Nat) (hn:n≤12) (m:Int) (hm:m=2 ^ (n+2)) (hl:xs.length≤1000000000) (hsl:Sl w .i64 ha xs) (HX:GoodH ⟨⟨a,b,c⟩,⟨d,e,f⟩⟩ xs hcp) (hV:validG ⟨⟨a,b,c⟩,⟨d,e,f⟩⟩ xs=true) (hE:emptyB ⟨⟨a,b,c⟩,⟨d,e,f⟩⟩=true) (Far:Nat→Prop) (hfx:xs ≠ [] → ∀ b,ha.map (·.block)=some b→Far b) (most:Int) (ts:List Tr) (hG:Good ts) (hlen:(Tr.add (Tr.can (cellG ⟨⟨a,b,c⟩,⟨d,e,f⟩⟩ xs) n ⟨0,0,0⟩) ts).length≤1000000000000) (hFar : ∀ k,Far k→k<w.heap.size) (hS:StoreIs w Far sb most ts) :
 Calls Tryz.prog 38 #[.pointer (some ⟨sb,0,none⟩),.agg #[a,b,c,d,e,f,.slice ha xs.length hcp],.int .i64 ((n:Int)+2)] w (Done Far sb most ts (Tr.add (Tr.can (cellG ⟨⟨a,b,c⟩,⟨d,e,f⟩⟩ xs) n ⟨0,0,0⟩) ts) (Tr.can (cellG ⟨⟨a,b,c⟩,⟨d,e,f⟩⟩ xs) n ⟨0,0,0⟩) w):=by
 have hwf:=wf_can HX.range n ⟨0,0,0⟩ (by omega)
 have HW:=Bx.mk (fun W1 W5 hb pd kd hn5 HC=>whole_from W5 (fun x=>Far x∨(w.heap.size≤x∧x<W5.heap.size)) sb most ts (Tr.add (Tr.can (cellG ⟨⟨a,b,c⟩,⟨d,e,f⟩⟩ xs) n ⟨0,0,0⟩) ts) (Tr.can (cellG ⟨⟨a,b,c⟩,⟨d,e,f⟩⟩ xs) n ⟨0,0,0⟩) ⟨W1,0,none⟩ ⟨pd,0,none⟩ (between_add _ hG hwf) hlen
  ((hS.widen (fun k hk=>hk.imp id (fun h=>h.1))).later hb)
  (from2_any W5 (fun x=>Far x∨(w.heap.size≤x∧x<W5.heap.size)) (w.heap.size+1) w.heap.size W1 sb a b c d e f ha hcp xs ⟨HC⟩ HX pd n hn kd most ts hG hlen (fun k hk=>hk.elim (fun h=>Nat.lt_of_lt_of_le (hFar k h) hn5) (fun h=>h.2)) ((hS.widen (fun k hk=>hk.imp id (fun h=>h.1))).later hb)))
 have hfx:=Bx.mk hfx
 clear hwf HX hG hlen hFar hS
 generalize (Tr.can (cellG ⟨⟨a,b,c⟩,⟨d,e,f⟩⟩ xs) n ⟨0,0,0⟩)=T at *
 have hvalid:=valid_any a b c d e f ha hcp xs
 have hempty:=empty_any a b c d e f
 have hcube:=fun W=>cubeAt_any (n+2) (by omega) 0 0 0 m hm (by omega) (by omega) (by omega) W
 have hcon:=contains_any 0 0 0 (0+m) (0+m) (0+m) a b c d e f
 rw [show ((n+2:Nat):Int)=(n:Int)+2 by omega] at hcube
 simp only [hV] at hvalid
 simp only [hE] at hempty
 replace hvalid:=Bx.mk hvalid
 replace hempty:=Bx.mk hempty
 replace hcube:=Bx.mk hcube
 replace hcon:=Bx.mk hcon
 have hsl0:=Bx.mk hsl
 have t1:decide ((n:Int)+2<2)=false:=by simp;omega
 have t2:decide (14<(n:Int)+2)=false:=by simp;omega
 have t3 : ¬((n:Int)+2<2):=by omega
 have t4 : ¬(14<(n:Int)+2):=by omega
 clear hsl hm hV hE
 go_enter Tryz.func38,Tryz.ntmps38
 go_upto_region 1 with fail
 generalize hW:World.alloc (World.alloc (World.alloc w _) _) _=W
 have hSz:=sz3 hW
 have hB:=bl3 hW
 have kr:Bk W (w.heap.size) #[.pointer (some ⟨sb,0,none⟩)] 31:=bk2 hW
 have kg:Bk W (w.heap.size+1) #[a,b,c,d,e,f,.slice ha xs.length hcp] 28:=bk1 hW
 have kd:Bk W (w.heap.size+1+1) #[.int .i64 ((n:Int)+2)] 3:=bk0 hW
 clear hW
 have cd0:=kd.cell 0 rfl
 go_wp2_with fail
 clear cd0
 have hsl1:=Bx.mk (hsl0.out.below hB)
 obtain ⟨cg0,cg1,cg2,cg3,cg4,cg5,cg6⟩:=kg.r7
 have cd0 : ∀ dk osk,(grow (redrawn W dk) osk).cell? ⟨w.heap.size+1+1,0,none⟩=some (.int .i64 ((n:Int)+2)):=cell_regrown (kd.cell 0 rfl)
 have q0:=Bx.mk fun dk osk=>Calls.regrown_of (hvalid.out (grow (redrawn W dk) osk) hl (hsl1.out.below (below_regrown W dk osk)))
 have q1:=Bx.mk fun dk osk=>Calls.regrown_of (hempty.out (grow (redrawn W dk) osk))
 refine wp_region_quiet_below (by kernel_rfl) (by kernel_rfl) ?_
 repeat (first | go_big_quiet_step ((first | with_reducible exact q0.out _ _ | with_reducible exact q1.out _ _)) | quiet_step (first | with_reducible exact q0.out _ _ | with_reducible exact q1.out _ _))
 refine wpQuiet_nil ?_
 rintro _ ⟨⟨dq,osq⟩,rfl⟩
 have hb:=below_regrown W dq osq
 clear cg0 cg1 cg2 cg3 cg4 cg5 cg6
 clear cd0
 clear q0
 clear q1
 replace hB:=hB.trans (hb.mono hB.size)
 replace kr:=kr.later hb
 replace kg:=kg.later hb
 replace kd:=kd.later hb
 replace hSz:=Nat.le_trans hSz hb.size
 clear hb
 generalize grow (redrawn W dq) osq=W1 at *
 have crr : ∀ o,(W1.alloc o).cell? ⟨w.heap.size,0,none⟩=some (.pointer (some ⟨sb,0,none⟩)):=fun o=>(kr.alloc o).cell 0 rfl
 go_wp2_with fail
 generalize hW5:World.alloc W1 _=W5
 have hb5:Below W1.heap.size W1 W5:=by rw [←hW5];exact below_lit _ _
 have kb:Bk W5 W1.heap.size #[.func (.func 82) #[] #[.pointer (some ⟨w.heap.size+1,0,none⟩),.pointer (some ⟨w.heap.size,0,none⟩),.pointer (some ⟨W1.heap.size,0,none⟩)]] 123:=bk0 hW5 rfl
 have hs5:W5.heap.size=W1.heap.size+1:=by rw [←hW5];simp
 have hB5:=Bx.mk (hB.trans (hb5.mono hB.size))
 have HC:Bx (BCtx W5 (fun x=>Far x∨(w.heap.size≤x∧x<W5.heap.size)) (w.heap.size+1) w.heap.size W1.heap.size sb a b c d e f ha hcp xs):=⟨⟨kg.later hb5,kr.later hb5,kb,.inr ⟨by omega,by omega⟩,.inr ⟨by omega,by omega⟩,.inr ⟨by omega,by omega⟩,hsl0.out.below hB5.out,fun hx b hb=>.inl (hfx.out hx b hb)⟩⟩
 have kd5:=Bx.mk (kd.later hb5)
 clear hW5 kb hb5 crr kr kg kd hsl1
 refine (HW.out _ W5 hB5.out _ kd5.out hB5.out.size HC.out).mono ?_
 rintro e9 w9 hg
 have Hg:=Bx.mk (hg.since (Far:=Far) hB5.out (fun k hk=>.inl hk))
 obtain ⟨-,-,(⟨hf,rfl,hs⟩ | ⟨hf,rfl,hs⟩)⟩:=hg
 all_goals
  clear hf hs
  go_wp2_with fail
  go_ret2
  exact Hg.out
set_option maxRecDepth 100000 in
set_option maxHeartbeats 1000000 in
theorem from_con (w:World) (sb:Nat) (a b c d e f:Int) (ha:Option Addr) (hcp:Nat) (xs:List Int) (n:Nat) (hn:n≤12) (m:Int) (hm:m=2 ^ (n+2)) (hl:xs.length≤1000000000) (hsl:Sl w .i64 ha xs) (HX:GoodH ⟨⟨a,b,c⟩,⟨d,e,f⟩⟩ xs hcp) (hV:validG ⟨⟨a,b,c⟩,⟨d,e,f⟩⟩ xs=true) (hE:emptyB ⟨⟨a,b,c⟩,⟨d,e,f⟩⟩=false) (hC:containsB ⟨⟨0,0,0⟩,⟨m,m,m⟩⟩ ⟨⟨a,b,c⟩,⟨d,e,f⟩⟩=true) (Far:Nat→Prop) (hfx:xs ≠ [] → ∀ b,ha.map (·.block)=some b→Far b) (most:Int) (ts:List Tr) (hG:Good ts) (hlen:(Tr.add (Tr.can (cellG ⟨⟨a,b,c⟩,⟨d,e,f⟩⟩ xs) n ⟨0,0,0⟩) ts).length≤1000000000000) (hFar : ∀ k,Far k→k<w.heap.size) (hS:StoreIs w Far sb most ts) :
 Calls Tryz.prog 38 #[.pointer (some ⟨sb,0,none⟩),.agg #[a,b,c,d,e,f,.slice ha xs.length hcp],.int .i64 ((n:Int)+2)] w (Done Far sb most ts (Tr.add (Tr.can (cellG ⟨⟨a,b,c⟩,⟨d,e,f⟩⟩ xs) n ⟨0,0,0⟩) ts) (Tr.can (cellG ⟨⟨a,b,c⟩,⟨d,e,f⟩⟩ xs) n ⟨0,0,0⟩) w):=by
 have hwf:=wf_can HX.range n ⟨0,0,0⟩ (by omega)
 have HW:=Bx.mk (fun W1 W5 hb pd kd hn5 HC=>whole_from W5 (fun x=>Far x∨(w.heap.size≤x∧x<W5.heap.size)) sb most ts (Tr.add (Tr.can (cellG ⟨⟨a,b,c⟩,⟨d,e,f⟩⟩ xs) n ⟨0,0,0⟩) ts) (Tr.can (cellG ⟨⟨a,b,c⟩,⟨d,e,f⟩⟩ xs) n ⟨0,0,0⟩) ⟨W1,0,none⟩ ⟨pd,0,none⟩ (between_add _ hG hwf) hlen
  ((hS.widen (fun k hk=>hk.imp id (fun h=>h.1))).later hb)
  (from2_any W5 (fun x=>Far x∨(w.heap.size≤x∧x<W5.heap.size)) (w.heap.size+1) w.heap.size W1 sb a b c d e f ha hcp xs ⟨HC⟩ HX pd n hn kd most ts hG hlen (fun k hk=>hk.elim (fun h=>Nat.lt_of_lt_of_le (hFar k h) hn5) (fun h=>h.2)) ((hS.widen (fun k hk=>hk.imp id (fun h=>h.1))).later hb)))
 have hfx:=Bx.mk hfx
 clear hwf HX hG hlen hFar hS
 generalize (Tr.can (cellG ⟨⟨a,b,c⟩,⟨d,e,f⟩⟩ xs) n ⟨0,0,0⟩)=T at *
 have hvalid:=valid_any a b c d e f ha hcp xs
 have hempty:=empty_any a b c d e f
 have hcube:=fun W=>cubeAt_any (n+2) (by omega) 0 0 0 m hm (by omega) (by omega) (by omega) W
 have hcon:=contains_any 0 0 0 (0+m) (0+m) (0+m) a b c d e f
 rw [show ((n+2:Nat):Int)=(n:Int)+2 by omega] at hcube
 simp only [hV] at hvalid
 simp only [hE] at hempty
 simp only [Int.zero_add] at hcon hcube
 simp only [hC] at hcon
 replace hvalid:=Bx.mk hvalid
 replace hempty:=Bx.mk hempty
 replace hcube:=Bx.mk hcube
 replace hcon:=Bx.mk hcon
 have hsl0:=Bx.mk hsl
 have t1:decide ((n:Int)+2<2)=false:=by simp;omega
 have t2:decide (14<(n:Int)+2)=false:=by simp;omega
 have t3 : ¬((n:Int)+2<2):=by omega
 have t4 : ¬(14<(n:Int)+2):=by omega
 clear hsl hm hV hE hC
 go_enter Tryz.func38,Tryz.ntmps38
 go_upto_region 1 with fail
 generalize hW:World.alloc (World.alloc (World.alloc w _) _) _=W
 have hSz:=sz3 hW
 have hB:=bl3 hW
 have kr:Bk W (w.heap.size) #[.pointer (some ⟨sb,0,none⟩)] 31:=bk2 hW
 have kg:Bk W (w.heap.size+1) #[a,b,c,d,e,f,.slice ha xs.length hcp] 28:=bk1 hW
 have kd:Bk W (w.heap.size+1+1) #[.int .i64 ((n:Int)+2)] 3:=bk0 hW
 clear hW
 have cd0:=kd.cell 0 rfl
 go_wp2_with fail
 clear cd0
 have hsl1:=Bx.mk (hsl0.out.below hB)
 obtain ⟨cg0,cg1,cg2,cg3,cg4,cg5,cg6⟩:=kg.r7
 have cd0 : ∀ dk osk,(grow (redrawn W dk) osk).cell? ⟨w.heap.size+1+1,0,none⟩=some (.int .i64 ((n:Int)+2)):=cell_regrown (kd.cell 0 rfl)
 have q0:=Bx.mk fun dk osk=>Calls.regrown_of (hvalid.out (grow (redrawn W dk) osk) hl (hsl1.out.below (below_regrown W dk osk)))
 have q1:=Bx.mk fun dk osk=>Calls.regrown_of (hempty.out (grow (redrawn W dk) osk))
 have q2:=Bx.mk fun dk osk=>Calls.regrown_of (hcube.out (grow (redrawn W dk) osk))
 have q3:=Bx.mk fun dk osk=>Calls.regrown_of (hcon.out (grow (redrawn W dk) osk))
 refine wp_region_quiet_below (by kernel_rfl) (by kernel_rfl) ?_
 repeat (first | go_big_quiet_step ((first | with_reducible exact q0.out _ _ | with_reducible exact q1.out _ _ | with_reducible exact q2.out _ _ | with_reducible exact q3.out _ _)) | quiet_step (first | with_reducible exact q0.out _ _ | with_reducible exact q1.out _ _ | with_reducible exact q2.out _ _ | with_reducible exact q3.out _ _))
 refine wpQuiet_nil ?_
 rintro _ ⟨⟨dq,osq⟩,rfl⟩
 have hb:=below_regrown W dq osq
 clear cg0 cg1 cg2 cg3 cg4 cg5 cg6
 clear cd0
 clear q0
 clear q1
 clear q2
 clear q3
 replace hB:=hB.trans (hb.mono hB.size)
 replace kr:=kr.later hb
 replace kg:=kg.later hb
 replace kd:=kd.later hb
 replace hSz:=Nat.le_trans hSz hb.size
 clear hb
 generalize grow (redrawn W dq) osq=W1 at *
 have crr : ∀ o,(W1.alloc o).cell? ⟨w.heap.size,0,none⟩=some (.pointer (some ⟨sb,0,none⟩)):=fun o=>(kr.alloc o).cell 0 rfl
 go_wp2_with fail
 generalize hW5:World.alloc W1 _=W5
 have hb5:Below W1.heap.size W1 W5:=by rw [←hW5];exact below_lit _ _
 have kb:Bk W5 W1.heap.size #[.func (.func 82) #[] #[.pointer (some ⟨w.heap.size+1,0,none⟩),.pointer (some ⟨w.heap.size,0,none⟩),.pointer (some ⟨W1.heap.size,0,none⟩)]] 123:=bk0 hW5 rfl
 have hs5:W5.heap.size=W1.heap.size+1:=by rw [←hW5];simp
 have hB5:=Bx.mk (hB.trans (hb5.mono hB.size))
 have HC:Bx (BCtx W5 (fun x=>Far x∨(w.heap.size≤x∧x<W5.heap.size)) (w.heap.size+1) w.heap.size W1.heap.size sb a b c d e f ha hcp xs):=⟨⟨kg.later hb5,kr.later hb5,kb,.inr ⟨by omega,by omega⟩,.inr ⟨by omega,by omega⟩,.inr ⟨by omega,by omega⟩,hsl0.out.below hB5.out,fun hx b hb=>.inl (hfx.out hx b hb)⟩⟩
 have kd5:=Bx.mk (kd.later hb5)
 clear hW5 kb hb5 crr kr kg kd hsl1
 refine (HW.out _ W5 hB5.out _ kd5.out hB5.out.size HC.out).mono ?_
 rintro e9 w9 hg
 have Hg:=Bx.mk (hg.since (Far:=Far) hB5.out (fun k hk=>.inl hk))
 obtain ⟨-,-,(⟨hf,rfl,hs⟩ | ⟨hf,rfl,hs⟩)⟩:=hg
 all_goals
  clear hf hs
  go_wp2_with fail
  go_ret2
  exact Hg.out
end
section
open Go.RowKit Go.Sort Go.Maps
open Oct
structure SCtx (w:World) (Far:Nat→Prop) (ps pc pp pb sb:Nat) (c px py pz:Int):Prop where
 kr:Bk w ps #[.pointer (some ⟨sb,0,none⟩)] 31
 kc:Bk w pc #[c] 3
 kp:Bk w pp #[px,py,pz] 23
 kb:Bk w pb #[.func (.func 64) #[] #[.pointer (some ⟨ps,0,none⟩),.pointer (some ⟨pc,0,none⟩),.pointer (some ⟨pp,0,none⟩),.pointer (some ⟨pb,0,none⟩)]] 81
 fr:Far ps
 fc:Far pc
 fp:Far pp
 fb:Far pb
section
variable {w w':World} {Far Far':Nat→Prop} {ps pc pp pb sb:Nat} {c px py pz:Int}
theorem SCtx.far (h:SCtx w Far ps pc pp pb sb c px py pz) (hk:Keeps Far w w'):SCtx w' Far ps pc pp pb sb c px py pz :=
 ⟨h.kr.far hk h.fr,h.kc.far hk h.fc,h.kp.far hk h.fp,h.kb.far hk h.fb,h.fr,h.fc,h.fp,h.fb⟩
theorem SCtx.later (h:SCtx w Far ps pc pp pb sb c px py pz) (hb:Below w.heap.size w w'):SCtx w' Far ps pc pp pb sb c px py pz:=h.far (Keeps.below hb)
theorem SCtx.wider (h:SCtx w Far ps pc pp pb sb c px py pz) (hf : ∀ k,Far k→Far' k):SCtx w Far' ps pc pp pb sb c px py pz :=
 ⟨h.kr,h.kc,h.kp,h.kb,hf _ h.fr,hf _ h.fc,hf _ h.fp,hf _ h.fb⟩
theorem SCtx.apart {g:Nat} (h:SCtx w Far ps pc pp pb sb c px py pz) (hg:w.grownBy w' (some g)) (hf : ∀ k,Far k→g ≠ k):SCtx w' Far ps pc pp pb sb c px py pz :=
 ⟨h.kr.grownO hg (by simpa using hf _ h.fr),h.kc.grownO hg (by simpa using hf _ h.fc),h.kp.grownO hg (by simpa using hf _ h.fp),h.kb.grownO hg (by simpa using hf _ h.fb),h.fr,h.fc,h.fp,h.fb⟩
end
theorem idx_bits (px py pz:Int) (hx:0≤px∧px≤100000) (hy:0≤py∧py≤100000) (hz:0≤pz∧pz≤100000) :
 ∃ x4 y4 z4:Int,bits .and .i64 px 3=x4∧bits .and .i64 py 3=y4∧bits .and .i64 pz 3=z4∧bits .or .i64 (bits .or .i64 x4 (wrap64 (y4 * 4))) (wrap64 (z4 * 16))=(Tr.idx ⟨px,py,pz⟩:Int):=by
 refine ⟨px % 4,py % 4,pz % 4,i64_and3 px (by omega) (by omega),i64_and3 py (by omega) (by omega),i64_and3 pz (by omega) (by omega),?_⟩
 rw [or_four' (by omega) (by omega) (by omega)]
 unfold Tr.idx
 simp only []
 omega
theorem dep_zero {t:Tr} (h:Dep 0 t):(∃ c0,t = .uni c0) ∨ ∃ l,t = .brick l:=by
 cases h with
 | uni _ c=>exact .inl ⟨c,rfl⟩
 | brick l=>exact .inr ⟨l,rfl⟩
set_option maxRecDepth 100000 in
set_option maxHeartbeats 1000000 in
theorem set0_uni (w:World) (Far:Nat→Prop) (ps pc pp pb sb:Nat) (c px py pz:Int) (HC:Bx (SCtx w Far ps pc pp pb sb c px py pz)) (hc:0≤c∧c≤255) (hx:0≤px∧px≤100000) (hy:0≤py∧py≤100000) (hz:0≤pz∧pz≤100000) (c0:Int) (most:Int) (ts:List Tr) (ht:(Tr.uni c0)∈ts) (hG:Good ts) (hlen:ts.length≤1000000000000) (hFar : ∀ k,Far k→k<w.heap.size) (hS:StoreIs w Far sb most ts) :
 Calls Tryz.prog 64 #[(idT ts (Tr.uni c0):Int),(2:Int),.pointer (some ⟨ps,0,none⟩),.pointer (some ⟨pc,0,none⟩),.pointer (some ⟨pp,0,none⟩),.pointer (some ⟨pb,0,none⟩)] w (Grew Far sb most ts (Tr.add (Tr.setT 0 (Tr.uni c0) ⟨px,py,pz⟩ c) ts) (Tr.setT 0 (Tr.uni c0) ⟨px,py,pz⟩ c) w):=by
 obtain ⟨x4,y4,z4,e1,e2,e3,e4⟩:=idx_bits px py pz hx hy hz
 have hk:=Tr.idx_lt ⟨px,py,pz⟩
 have hby:=hG.bytes _ ht
 have hset:Tr.setT 0 (Tr.uni c0) ⟨px,py,pz⟩ c=Tr.mkBrick ((Tr.cells (Tr.uni c0)).set (Tr.idx ⟨px,py,pz⟩) c):=rfl
 rw [hset]
 have hcl64:(Tr.cells (Tr.uni c0)).length=64 ∧ ∀ x∈Tr.cells (Tr.uni c0),0≤x∧x≤255:=⟨by simp [Tr.cells],fun x hx=>by simp [Tr.cells] at hx;rw [hx];exact hby.unis c0 rfl⟩
 have hls:((Tr.cells (Tr.uni c0)).set (Tr.idx ⟨px,py,pz⟩) c).length=64:=by rw [List.length_set];exact hcl64.1
 have hall:((Tr.cells (Tr.uni c0)).set (Tr.idx ⟨px,py,pz⟩) c).all Pal.cell=true:=by
  rw [List.all_eq_true]
  intro x hx
  rw [Pal.cell_eq]
  rcases List.mem_or_eq_of_mem_set hx with hx | rfl
  · simpa using hcl64.2 x hx
  · simpa using hc
 have hcl:=Bx.mk (cells_any w Far sb most ts _ ht hG hlen hS)
 simp only [outT] at hcl
 have hbr:=Bx.mk (fun W (hb:Below w.heap.size w W) a cap hsl=>brick_any W Far sb most ts a cap _ hls hall hsl hG hlen (fun k hk=>Nat.lt_of_lt_of_le (hFar k hk) hb.size) (hS.later hb))
 have hl0:=Bx.mk hcl64.1
 have cr:=HC.out.kr.cell 0 rfl
 clear hset hcl64 hls hall hby hG hlen hFar hS hx hy hz ht hc
 generalize hkk:Tr.idx ⟨px,py,pz⟩=kk at *
 clear hkk
 generalize (idT ts (Tr.uni c0):Int)=ii at *
 have hcz:Tr.cells (.uni c0)=List.replicate 64 c0:=rfl
 rw [hcz] at hbr hl0 ⊢
 clear hcz
 go_enter Tryz.func64,Tryz.ntmps64
 go_wp2_with fail
 refine hcl.out.mono ?_
 rintro e5 w1 ⟨v,rfl,hown,hb⟩
 have hB:=Bx.mk hb
 obtain ⟨g,cap,rfl,hg1,hg2,hcell,-,-⟩:=hown.at (by simp)
 have hc0:=hcell 0 c0 rfl
 have hrp:=Bx.mk (fun W (h:Below w1.heap.size w1 W)=>repeat_one ⟨g,0,none⟩ cap c0 64 (by omega) (by omega) W (cell_later h hc0))
 clear hcell hown hb
 simp only [List.length_cons,List.length_nil,Nat.zero_add]
 rw [show ((64:Nat):Int)=64 from rfl] at hrp
 go_wp2_with fail
 refine (hrp.out _ (Below.refl _ _)).mono ?_
 rintro e6 w2 ⟨v2,rfl,hown,hb⟩
 replace hB:=Bx.mk (hB.out.trans (hb.mono hB.out.size))
 have hsz2:w.heap.size≤w1.heap.size:=by omega
 obtain ⟨g2,cap2,rfl,hg3,hg4,hcell,hfr,hst⟩:=hown.at (by simp)
 rw [hl0.out] at hst
 have hval:=hcell kk c0 (by rw [List.getElem?_replicate,if_pos hk])
 have hfz:=hfr kk
 have hst2:=Bx.mk (hst kk c)
 have hC2:=HC.out.later hB.out
 have cr2:=hC2.kr.cell 0 rfl
 have cc2:=hC2.kc.cell 0 rfl
 obtain ⟨cp0,cp1,cp2⟩:=hC2.kp.c3
 have b1:(0:Int)≤(kk:Int):=by omega
 have b2:(kk:Int)<64:=by omega
 have hgw:w.heap.size≤g2:=by omega
 have hset:=Bx.mk (hB.out.setCell hgw (.int .i64 c) (p:=⟨g2,kk,none⟩))
 have hkr3:=((hC2.kr.other ⟨g2,kk,none⟩ (.int .i64 c) (by have:=(HC.out.kr).lt;simp only;omega))).cell 0 rfl
 rw [hl0.out]
 clear hC2 hcell hfr hst hown
 go_wp2_with fail
 refine (hbr.out _ hset.out _ _ hst2.out.sl).mono ?_
 rintro e7 w7 hg
 have Hg:=Bx.mk (hg.since hset.out)
 obtain ⟨-,-,(⟨hf,rfl,hs⟩ | ⟨hf,rfl,us,hs⟩)⟩:=hg
 all_goals
  clear hf hs
  go_wp2_with fail
  go_ret2
  exact Hg.out
set_option maxRecDepth 100000 in
set_option maxHeartbeats 1000000 in
theorem set0_brick (w:World) (Far:Nat→Prop) (ps pc pp pb sb:Nat) (c px py pz:Int) (HC:Bx (SCtx w Far ps pc pp pb sb c px py pz)) (hc:0≤c∧c≤255) (hx:0≤px∧px≤100000) (hy:0≤py∧py≤100000) (hz:0≤pz∧pz≤100000) (l:List Int) (most:Int) (ts:List Tr) (ht:(Tr.brick l)∈ts) (hG:Good ts) (hlen:ts.length≤1000000000000) (hFar : ∀ k,Far k→k<w.heap.size) (hS:StoreIs w Far sb most ts) :
 Calls Tryz.prog 64 #[(idT ts (Tr.brick l):Int),(2:Int),.pointer (some ⟨ps,0,none⟩),.pointer (some ⟨pc,0,none⟩),.pointer (some ⟨pp,0,none⟩),.pointer (some ⟨pb,0,none⟩)] w (Grew Far sb most ts (Tr.add (Tr.setT 0 (Tr.brick l) ⟨px,py,pz⟩ c) ts) (Tr.setT 0 (Tr.brick l) ⟨px,py,pz⟩ c) w):=by
 obtain ⟨x4,y4,z4,e1,e2,e3,e4⟩:=idx_bits px py pz hx hy hz
 have hk:=Tr.idx_lt ⟨px,py,pz⟩
 have hby:=hG.bytes _ ht
 have hset:Tr.setT 0 (Tr.brick l) ⟨px,py,pz⟩ c=Tr.mkBrick ((Tr.cells (Tr.brick l)).set (Tr.idx ⟨px,py,pz⟩) c):=rfl
 rw [hset]
 have hcl64:(Tr.cells (Tr.brick l)).length=64 ∧ ∀ x∈Tr.cells (Tr.brick l),0≤x∧x≤255:=hby.bricks l rfl
 have hls:((Tr.cells (Tr.brick l)).set (Tr.idx ⟨px,py,pz⟩) c).length=64:=by rw [List.length_set];exact hcl64.1
 have hall:((Tr.cells (Tr.brick l)).set (Tr.idx ⟨px,py,pz⟩) c).all Pal.cell=true:=by
  rw [List.all_eq_true]
  intro x hx
  rw [Pal.cell_eq]
  rcases List.mem_or_eq_of_mem_set hx with hx | rfl
  · simpa using hcl64.2 x hx
  · simpa using hc
 have hcl:=Bx.mk (cells_any w Far sb most ts _ ht hG hlen hS)
 simp only [outT] at hcl
 have hbr:=Bx.mk (fun W (hb:Below w.heap.size w W) a cap hsl=>brick_any W Far sb most ts a cap _ hls hall hsl hG hlen (fun k hk=>Nat.lt_of_lt_of_le (hFar k hk) hb.size) (hS.later hb))
 have hl0:=Bx.mk hcl64.1
 have cr:=HC.out.kr.cell 0 rfl
 clear hset hcl64 hls hall hby hG hlen hFar hS hx hy hz ht hc
 generalize hkk:Tr.idx ⟨px,py,pz⟩=kk at *
 clear hkk
 generalize (idT ts (Tr.brick l):Int)=ii at *
 have hcz:Tr.cells (.brick l)=l:=rfl
 rw [hcz] at hbr hl0 ⊢
 clear hcz
 go_enter Tryz.func64,Tryz.ntmps64
 go_wp2_with fail
 refine hcl.out.mono ?_
 rintro e5 w1 ⟨v,rfl,hown,hb⟩
 have hB:=Bx.mk hb
 have hsz2:w.heap.size≤w.heap.size:=Nat.le_refl _
 obtain ⟨w2,rfl⟩ : ∃ w2:World,w2=w1:=⟨_,rfl⟩
 obtain ⟨g2,cap2,rfl,hg3,hg4,hcell,hfr,hst⟩:=hown.at (by rw [hl0.out];omega)
 rw [hl0.out] at hst
 have hval:=hcell kk _ (List.getElem?_eq_getElem (by rw [hl0.out];exact hk))
 have hfz:=hfr kk
 have hst2:=Bx.mk (hst kk c)
 have hC2:=HC.out.later hB.out
 have cr2:=hC2.kr.cell 0 rfl
 have cc2:=hC2.kc.cell 0 rfl
 obtain ⟨cp0,cp1,cp2⟩:=hC2.kp.c3
 have b1:(0:Int)≤(kk:Int):=by omega
 have b2:(kk:Int)<64:=by omega
 have hgw:w.heap.size≤g2:=by omega
 have hset:=Bx.mk (hB.out.setCell hgw (.int .i64 c) (p:=⟨g2,kk,none⟩))
 have hkr3:=((hC2.kr.other ⟨g2,kk,none⟩ (.int .i64 c) (by have:=(HC.out.kr).lt;simp only;omega))).cell 0 rfl
 rw [hl0.out]
 clear hC2 hcell hfr hst hown
 go_wp2_with fail
 refine (hbr.out _ hset.out _ _ hst2.out.sl).mono ?_
 rintro e7 w7 hg
 have Hg:=Bx.mk (hg.since hset.out)
 obtain ⟨-,-,(⟨hf,rfl,hs⟩ | ⟨hf,rfl,us,hs⟩)⟩:=hg
 all_goals
  clear hf hs
  go_wp2_with fail
  go_ret2
  exact Hg.out
end
end Go.Proofs.YtgnfgblkpnfcnaaGreatDoor
