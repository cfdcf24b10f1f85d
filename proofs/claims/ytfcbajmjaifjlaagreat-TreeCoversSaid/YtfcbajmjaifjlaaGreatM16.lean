/- Frm, Set3, Prt, SanP: joined by program, for one claim. -/
import Derived.Test.YtfcbajmjaifjlaaGreatMr
import Derived.Test.YtfcbajmjaifjlaaGreatM15
import Derived.Laws.EntriesVeiled
import Derived.Test.YtfcbajmjaifjlaaGreatM12
set_option linter.unusedVariables false
set_option linter.unusedSimpArgs false
namespace Go.Proofs.YtfcbajmjaifjlaaGreat
section
open Go.RowKit Go.Sort Go.Maps
open Oct
theorem al_zero (n:Nat):Tr.Al n ⟨0,0,0⟩:=by unfold Tr.Al;simp
set_option maxHeartbeats 1000000 in
theorem from2_any (w:World) (Far:Nat→Prop) (pg ps pb sb:Nat) (a b c d e f:Int) (ha:Option Addr) (hcp:Nat) (xs:List Int) (HC:Bx (BCtx w Far pg ps pb sb a b c d e f ha hcp xs)) (HX:GoodH ⟨⟨a,b,c⟩,⟨d,e,f⟩⟩ xs hcp) (pd n:Nat) (hn:n≤12) (kd:Bk w pd #[.int .i64 ((n:Int)+2)] 3) (most:Int) (ts:List Tr) (hG:Good ts) (hlen:(Tr.add (Tr.can (cellG ⟨⟨a,b,c⟩,⟨d,e,f⟩⟩ xs) n ⟨0,0,0⟩) ts).length≤1000000000000) (hFar : ∀ k,Far k→k<w.heap.size) (hS:StoreIs w Far sb most ts) :
 Calls Tryz.prog 98 #[.pointer (some ⟨pb,0,none⟩),.pointer (some ⟨pd,0,none⟩)] w (Grew Far sb most ts (Tr.add (Tr.can (cellG ⟨⟨a,b,c⟩,⟨d,e,f⟩⟩ xs) n ⟨0,0,0⟩) ts) (Tr.can (cellG ⟨⟨a,b,c⟩,⟨d,e,f⟩⟩ xs) n ⟨0,0,0⟩) w):=by
 have hp:=pow_le (show n+2≤14 by omega)
 have hb:=Bx.mk (build_any n hn w Far pg ps pb sb a b c d e f ha hcp xs HC HX 0 0 0 (al_zero n) (by omega) (by omega) (by omega) most ts hG hlen hFar hS)
 have cd:=kd.cell 0 rfl
 have cb:=HC.out.kb.cell 0 rfl
 clear kd hp hlen hG hFar hS HX
 generalize (Tr.can (cellG ⟨⟨a,b,c⟩,⟨d,e,f⟩⟩ xs) n ⟨0,0,0⟩)=T at *
 go_enter Tryz.func98,Tryz.ntmps98
 go_wp2_with fail
 refine hb.out.mono ?_
 rintro e w1 hg
 have Hg:=Bx.mk hg
 obtain ⟨-,-,(⟨hf,rfl,hs⟩ | ⟨hf,rfl,us,hs⟩)⟩:=hg
 all_goals
  clear hf hs
  go_wp2_with fail
  go_ret2
  exact Hg.out
theorem Done.since {w W w':World} {Far Far':Nat→Prop} {sb:Nat} {most:Int} {ts ts':List Tr} {t:Tr} {e:Ending} (h:Done Far' sb most ts ts' t W e w') (hb:Below w.heap.size w W) (hf : ∀ k,Far k→Far' k):Done Far sb most ts ts' t w e w':=by
 refine ⟨(Keeps.below hb).trans (h.keeps.less hf),Nat.le_trans hb.size h.size,?_⟩
 rcases h.way with ⟨h1,h2,h3⟩ | ⟨h1,h2,h3⟩
 · exact .inl ⟨h1,h2,h3.less hf⟩
 · exact .inr ⟨h1,h2,h3.less hf⟩
set_option maxRecDepth 100000 in
set_option maxHeartbeats 1000000 in
theorem from_emp (w:World) (sb:Nat) (a b c d e f:Int) (ha:Option Addr) (hcp:Nat) (xs:List Int) (n:Nat) (hn:n≤12) (m:Int) (hm:m=2 ^ (n+2)) (hl:xs.length≤1000000000) (hsl:Sl w .i64 ha xs) (HX:GoodH ⟨⟨a,b,c⟩,⟨d,e,f⟩⟩ xs hcp) (hV:validG ⟨⟨a,b,c⟩,⟨d,e,f⟩⟩ xs=true) (hE:emptyB ⟨⟨a,b,c⟩,⟨d,e,f⟩⟩=true) (Far:Nat→Prop) (hfx:xs ≠ [] → ∀ b,ha.map (·.block)=some b→Far b) (most:Int) (ts:List Tr) (hG:Good ts) (hlen:(Tr.add (Tr.can (cellG ⟨⟨a,b,c⟩,⟨d,e,f⟩⟩ xs) n ⟨0,0,0⟩) ts).length≤1000000000000) (hFar : ∀ k,Far k→k<w.heap.size) (hS:StoreIs w Far sb most ts) :
 Calls Tryz.prog 33 #[.pointer (some ⟨sb,0,none⟩),.agg #[a,b,c,d,e,f,.slice ha xs.length hcp],.int .i64 ((n:Int)+2)] w (Done Far sb most ts (Tr.add (Tr.can (cellG ⟨⟨a,b,c⟩,⟨d,e,f⟩⟩ xs) n ⟨0,0,0⟩) ts) (Tr.can (cellG ⟨⟨a,b,c⟩,⟨d,e,f⟩⟩ xs) n ⟨0,0,0⟩) w):=by
 have hwf:=wf_can HX.range n ⟨0,0,0⟩ (by omega)
 have HW:=Bx.mk (fun W1 W5 hb pd kd hn5 HC=>whole_from W5 (fun x=>Far x∨(w.heap.size≤x∧x<W5.heap.size)) sb most ts (Tr.add (Tr.can (cellG ⟨⟨a,b,c⟩,⟨d,e,f⟩⟩ xs) n ⟨0,0,0⟩) ts) (Tr.can (cellG ⟨⟨a,b,c⟩,⟨d,e,f⟩⟩ xs) n ⟨0,0,0⟩) ⟨W1,0,none⟩ ⟨pd,0,none⟩ (between_add _ hG hwf) hlen
  ((hS.widen (fun k hk=>hk.imp id (fun h=>h.1))).later hb)
  (from2_any W5 (fun x=>Far x∨(w.heap.size≤x∧x<W5.heap.size)) (w.heap.size+1) w.heap.size W1 sb a b c d e f ha hcp xs ⟨HC⟩ HX pd n hn kd most ts hG hlen (fun k hk=>hk.elim (fun h=>Nat.lt_of_lt_of_le (hFar k h) hn5) (fun h=>h.2)) ((hS.widen (fun k hk=>hk.imp id (fun h=>h.1))).later hb)))
 have hfx:=Bx.mk hfx
 clear hwf HX hG hlen hFar hS
 generalize (Tr.can (cellG ⟨⟨a,b,c⟩,⟨d,e,f⟩⟩ xs) n ⟨0,0,0⟩)=T at *
 have hvalid:=valid_any a b c d e f ha hcp xs
 have hempty:=empty_any a b c d e f
 have hcube:=fun W=>cubeAt_any (n+2) (by omega) 0 0 0 m hm (by omega) (by omega) (by omega) W
 have hcon:=contains_any 0 0 0 (0+m) (0+m) (0+m) a b c d e f
 rw [show ((n+2:Nat):Int)=(n:Int)+2 by omega] at hcube
 simp only [hV] at hvalid
 simp only [hE] at hempty
 replace hvalid:=Bx.mk hvalid
 replace hempty:=Bx.mk hempty
 replace hcube:=Bx.mk hcube
 replace hcon:=Bx.mk hcon
 have hsl0:=Bx.mk hsl
 have t1:decide ((n:Int)+2<2)=false:=by simp;omega
 have t2:decide (14<(n:Int)+2)=false:=by simp;omega
 have t3 : ¬((n:Int)+2<2):=by omega
 have t4 : ¬(14<(n:Int)+2):=by omega
 clear hsl hm hV hE
 go_enter Tryz.func33,Tryz.ntmps33
 go_upto_region 1 with fail
 generalize hW:World.alloc (World.alloc (World.alloc w _) _) _=W
 have hSz:=sz3 hW
 have hB:=bl3 hW
 have kr:Bk W (w.heap.size) #[.pointer (some ⟨sb,0,none⟩)] 32:=bk2 hW
 have kg:Bk W (w.heap.size+1) #[a,b,c,d,e,f,.slice ha xs.length hcp] 28:=bk1 hW
 have kd:Bk W (w.heap.size+1+1) #[.int .i64 ((n:Int)+2)] 3:=bk0 hW
 clear hW
 have cd0:=kd.cell 0 rfl
 go_wp2_with fail
 clear cd0
 have hsl1:=Bx.mk (hsl0.out.below hB)
 obtain ⟨cg0,cg1,cg2,cg3,cg4,cg5,cg6⟩:=kg.r7
 have cd0 : ∀ dk osk,(grow (redrawn W dk) osk).cell? ⟨w.heap.size+1+1,0,none⟩=some (.int .i64 ((n:Int)+2)):=cell_regrown (kd.cell 0 rfl)
 have q0:=Bx.mk fun dk osk=>Calls.regrown_of (hvalid.out (grow (redrawn W dk) osk) hl (hsl1.out.below (below_regrown W dk osk)))
 have q1:=Bx.mk fun dk osk=>Calls.regrown_of (hempty.out (grow (redrawn W dk) osk))
 refine wp_region_quiet_below (by kernel_rfl) (by kernel_rfl) ?_
 repeat (first | go_big_quiet_step ((first | with_reducible exact q0.out _ _ | with_reducible exact q1.out _ _)) | quiet_step (first | with_reducible exact q0.out _ _ | with_reducible exact q1.out _ _))
 refine wpQuiet_nil ?_
 rintro _ ⟨⟨dq,osq⟩,rfl⟩
 have hb:=below_regrown W dq osq
 clear cg0 cg1 cg2 cg3 cg4 cg5 cg6
 clear cd0
 clear q0
 clear q1
 replace hB:=hB.trans (hb.mono hB.size)
 replace kr:=kr.later hb
 replace kg:=kg.later hb
 replace kd:=kd.later hb
 replace hSz:=Nat.le_trans hSz hb.size
 clear hb
 generalize grow (redrawn W dq) osq=W1 at *
 have crr : ∀ o,(W1.alloc o).cell? ⟨w.heap.size,0,none⟩=some (.pointer (some ⟨sb,0,none⟩)):=fun o=>(kr.alloc o).cell 0 rfl
 go_wp2_with fail
 generalize hW5:World.alloc W1 _=W5
 have hb5:Below W1.heap.size W1 W5:=by rw [←hW5];exact below_lit _ _
 have kb:Bk W5 W1.heap.size #[.func (.func 93) #[] #[.pointer (some ⟨w.heap.size+1,0,none⟩),.pointer (some ⟨w.heap.size,0,none⟩),.pointer (some ⟨W1.heap.size,0,none⟩)]] 135:=bk0 hW5 rfl
 have hs5:W5.heap.size=W1.heap.size+1:=by rw [←hW5];simp
 have hB5:=Bx.mk (hB.trans (hb5.mono hB.size))
 have HC:Bx (BCtx W5 (fun x=>Far x∨(w.heap.size≤x∧x<W5.heap.size)) (w.heap.size+1) w.heap.size W1.heap.size sb a b c d e f ha hcp xs):=⟨⟨kg.later hb5,kr.later hb5,kb,.inr ⟨by omega,by omega⟩,.inr ⟨by omega,by omega⟩,.inr ⟨by omega,by omega⟩,hsl0.out.below hB5.out,fun hx b hb=>.inl (hfx.out hx b hb)⟩⟩
 have kd5:=Bx.mk (kd.later hb5)
 clear hW5 kb hb5 crr kr kg kd hsl1
 refine (HW.out _ W5 hB5.out _ kd5.out hB5.out.size HC.out).mono ?_
 rintro e9 w9 hg
 have Hg:=Bx.mk (hg.since (Far:=Far) hB5.out (fun k hk=>.inl hk))
 obtain ⟨-,-,(⟨hf,rfl,hs⟩ | ⟨hf,rfl,hs⟩)⟩:=hg
 all_goals
  clear hf hs
  go_wp2_with fail
  go_ret2
  exact Hg.out
set_option maxRecDepth 100000 in
set_option maxHeartbeats 1000000 in
theorem from_con (w:World) (sb:Nat) (a b c d e f:Int) (ha:Option Addr) (hcp:Nat) (xs:List Int) (n:Nat) (hn:n≤12) (m:Int) (hm:m=2 ^ (n+2)) (hl:xs.length≤1000000000) (hsl:Sl w .i64 ha xs) (HX:GoodH ⟨⟨a,b,c⟩,⟨d,e,f⟩⟩ xs hcp) (hV:validG ⟨⟨a,b,c⟩,⟨d,e,f⟩⟩ xs=true) (hE:emptyB ⟨⟨a,b,c⟩,⟨d,e,f⟩⟩=false) (hC:containsB ⟨⟨0,0,0⟩,⟨m,m,m⟩⟩ ⟨⟨a,b,c⟩,⟨d,e,f⟩⟩=true) (Far:Nat→Prop) (hfx:xs ≠ [] → ∀ b,ha.map (·.block)=some b→Far b) (most:Int) (ts:List Tr) (hG:Good ts) (hlen:(Tr.add (Tr.can (cellG ⟨⟨a,b,c⟩,⟨d,e,f⟩⟩ xs) n ⟨0,0,0⟩) ts).length≤1000000000000) (hFar : ∀ k,Far k→k<w.heap.size) (hS:StoreIs w Far sb most ts) :
 Calls Tryz.prog 33 #[.pointer (some ⟨sb,0,none⟩),.agg #[a,b,c,d,e,f,.slice ha xs.length hcp],.int .i64 ((n:Int)+2)] w (Done Far sb most ts (Tr.add (Tr.can (cellG ⟨⟨a,b,c⟩,⟨d,e,f⟩⟩ xs) n ⟨0,0,0⟩) ts) (Tr.can (cellG ⟨⟨a,b,c⟩,⟨d,e,f⟩⟩ xs) n ⟨0,0,0⟩) w):=by
 have hwf:=wf_can HX.range n ⟨0,0,0⟩ (by omega)
 have HW:=Bx.mk (fun W1 W5 hb pd kd hn5 HC=>whole_from W5 (fun x=>Far x∨(w.heap.size≤x∧x<W5.heap.size)) sb most ts (Tr.add (Tr.can (cellG ⟨⟨a,b,c⟩,⟨d,e,f⟩⟩ xs) n ⟨0,0,0⟩) ts) (Tr.can (cellG ⟨⟨a,b,c⟩,⟨d,e,f⟩⟩ xs) n ⟨0,0,0⟩) ⟨W1,0,none⟩ ⟨pd,0,none⟩ (between_add _ hG hwf) hlen
  ((hS.widen (fun k hk=>hk.imp id (fun h=>h.1))).later hb)
  (from2_any W5 (fun x=>Far x∨(w.heap.size≤x∧x<W5.heap.size)) (w.heap.size+1) w.heap.size W1 sb a b c d e f ha hcp xs ⟨HC⟩ HX pd n hn kd most ts hG hlen (fun k hk=>hk.elim (fun h=>Nat.lt_of_lt_of_le (hFar k h) hn5) (fun h=>h.2)) ((hS.widen (fun k hk=>hk.imp id (fun h=>h.1))).later hb)))
 have hfx:=Bx.mk hfx
 clear hwf HX hG hlen hFar hS
 generalize (Tr.can (cellG ⟨⟨a,b,c⟩,⟨d,e,f⟩⟩ xs) n ⟨0,0,0⟩)=T at *
 have hvalid:=valid_any a b c d e f ha hcp xs
 have hempty:=empty_any a b c d e f
 have hcube:=fun W=>cubeAt_any (n+2) (by omega) 0 0 0 m hm (by omega) (by omega) (by omega) W
 have hcon:=contains_any 0 0 0 (0+m) (0+m) (0+m) a b c d e f
 rw [show ((n+2:Nat):Int)=(n:Int)+2 by omega] at hcube
 simp only [hV] at hvalid
 simp only [hE] at hempty
 simp only [Int.zero_add] at hcon hcube
 simp only [hC] at hcon
 replace hvalid:=Bx.mk hvalid
 replace hempty:=Bx.mk hempty
 replace hcube:=Bx.mk hcube
 replace hcon:=Bx.mk hcon
 have hsl0:=Bx.mk hsl
 have t1:decide ((n:Int)+2<2)=false:=by simp;omega
 have t2:decide (14<(n:Int)+2)=false:=by simp;omega
 have t3 : ¬((n:Int)+2<2):=by omega
 have t4 : ¬(14<(n:Int)+2):=by omega
 clear hsl hm hV hE hC
 go_enter Tryz.func33,Tryz.ntmps33
 go_upto_region 1 with fail
 generalize hW:World.alloc (World.alloc (World.alloc w _) _) _=W
 have hSz:=sz3 hW
 have hB:=bl3 hW
 have kr:Bk W (w.heap.size) #[.pointer (some ⟨sb,0,none⟩)] 32:=bk2 hW
 have kg:Bk W (w.heap.size+1) #[a,b,c,d,e,f,.slice ha xs.length hcp] 28:=bk1 hW
 have kd:Bk W (w.heap.size+1+1) #[.int .i64 ((n:Int)+2)] 3:=bk0 hW
 clear hW
 have cd0:=kd.cell 0 rfl
 go_wp2_with fail
 clear cd0
 have hsl1:=Bx.mk (hsl0.out.below hB)
 obtain ⟨cg0,cg1,cg2,cg3,cg4,cg5,cg6⟩:=kg.r7
 have cd0 : ∀ dk osk,(grow (redrawn W dk) osk).cell? ⟨w.heap.size+1+1,0,none⟩=some (.int .i64 ((n:Int)+2)):=cell_regrown (kd.cell 0 rfl)
 have q0:=Bx.mk fun dk osk=>Calls.regrown_of (hvalid.out (grow (redrawn W dk) osk) hl (hsl1.out.below (below_regrown W dk osk)))
 have q1:=Bx.mk fun dk osk=>Calls.regrown_of (hempty.out (grow (redrawn W dk) osk))
 have q2:=Bx.mk fun dk osk=>Calls.regrown_of (hcube.out (grow (redrawn W dk) osk))
 have q3:=Bx.mk fun dk osk=>Calls.regrown_of (hcon.out (grow (redrawn W dk) osk))
 refine wp_region_quiet_below (by kernel_rfl) (by kernel_rfl) ?_
 repeat (first | go_big_quiet_step ((first | with_reducible exact q0.out _ _ | with_reducible exact q1.out _ _ | with_reducible exact q2.out _ _ | with_reducible exact q3.out _ _)) | quiet_step (first | with_reducible exact q0.out _ _ | with_reducible exact q1.out _ _ | with_reducible exact q2.out _ _ | with_reducible exact q3.out _ _))
 refine wpQuiet_nil ?_
 rintro _ ⟨⟨dq,osq⟩,rfl⟩
 have hb:=below_regrown W dq osq
 clear cg0 cg1 cg2 cg3 cg4 cg5 cg6
 clear cd0
 clear q0
 clear q1
 clear q2
 clear q3
 replace hB:=hB.trans (hb.mono hB.size)
 replace kr:=kr.later hb
 replace kg:=kg.later hb
 replace kd:=kd.later hb
 replace hSz:=Nat.le_trans hSz hb.size
 clear hb
 generalize grow (redrawn W dq) osq=W1 at *
 have crr : ∀ o,(W1.alloc o).cell? ⟨w.heap.size,0,none⟩=some (.pointer (some ⟨sb,0,none⟩)):=fun o=>(kr.alloc o).cell 0 rfl
 go_wp2_with fail
 generalize hW5:World.alloc W1 _=W5
 have hb5:Below W1.heap.size W1 W5:=by rw [←hW5];exact below_lit _ _
 have kb:Bk W5 W1.heap.size #[.func (.func 93) #[] #[.pointer (some ⟨w.heap.size+1,0,none⟩),.pointer (some ⟨w.heap.size,0,none⟩),.pointer (some ⟨W1.heap.size,0,none⟩)]] 135:=bk0 hW5 rfl
 have hs5:W5.heap.size=W1.heap.size+1:=by rw [←hW5];simp
 have hB5:=Bx.mk (hB.trans (hb5.mono hB.size))
 have HC:Bx (BCtx W5 (fun x=>Far x∨(w.heap.size≤x∧x<W5.heap.size)) (w.heap.size+1) w.heap.size W1.heap.size sb a b c d e f ha hcp xs):=⟨⟨kg.later hb5,kr.later hb5,kb,.inr ⟨by omega,by omega⟩,.inr ⟨by omega,by omega⟩,.inr ⟨by omega,by omega⟩,hsl0.out.below hB5.out,fun hx b hb=>.inl (hfx.out hx b hb)⟩⟩
 have kd5:=Bx.mk (kd.later hb5)
 clear hW5 kb hb5 crr kr kg kd hsl1
 refine (HW.out _ W5 hB5.out _ kd5.out hB5.out.size HC.out).mono ?_
 rintro e9 w9 hg
 have Hg:=Bx.mk (hg.since (Far:=Far) hB5.out (fun k hk=>.inl hk))
 obtain ⟨-,-,(⟨hf,rfl,hs⟩ | ⟨hf,rfl,hs⟩)⟩:=hg
 all_goals
  clear hf hs
  go_wp2_with fail
  go_ret2
  exact Hg.out
end
section
open Go.RowKit Go.Sort Go.Maps
open Oct
theorem in_range {n:Nat} (hn:n≤12) {px py pz:Int} (h:inB ⟨px,py,pz⟩ (cubeB (2 ^ (n+2)))=true):(0≤px∧px≤100000)∧(0≤py∧py≤100000)∧(0≤pz∧pz≤100000):=by
 have hl:=(pow_le (show n+2≤14 by omega)).2
 have:=inB_iff.1 h
 simp only [cubeB,Pt.zero] at this
 omega
end
section
open Go.RowKit Go.Sort Go.Maps
open Oct
theorem i64_or_nat (a b:Nat) (ha:a<4611686018427387904) (hb:b<4611686018427387904):bits .or .i64 (a:Int) (b:Int)=((a ||| b:Nat):Int):=by
 have hx:a ||| b<2 ^ 62:=Nat.or_lt_two_pow (by omega) (by omega)
 show IntKind.i64.wrap ((BitVec.ofInt 64 (a:Int) ||| BitVec.ofInt 64 (b:Int)).toNat:Int)=_
 rw [BitVec.toNat_or,Go.ofInt_u64 a (by omega),Go.ofInt_u64 b (by omega)]
 exact wraps_i64 _ (by omega) (by omega)
def alB (L:Nat) (p:Pt):Bool:=decide (p.x % 2 ^ L=0∧p.y % 2 ^ L=0∧p.z % 2 ^ L=0)
theorem al_bits (L:Nat) (hL:L≤14) (px py pz:Int) (hx:0≤px∧px≤100000) (hy:0≤py∧py≤100000) (hz:0≤pz∧pz≤100000) :
 ∃ q r:Int,bits .or .i64 (bits .or .i64 px py) pz=q∧bits .and .i64 q (2 ^ L - 1)=r∧(r != 0) = !alB L ⟨px,py,pz⟩:=by
 obtain ⟨a,rfl⟩:=Int.eq_ofNat_of_zero_le hx.1
 obtain ⟨b,rfl⟩:=Int.eq_ofNat_of_zero_le hy.1
 obtain ⟨c,rfl⟩:=Int.eq_ofNat_of_zero_le hz.1
 have h1:a ||| b<2 ^ 20:=Nat.or_lt_two_pow (by omega) (by omega)
 have h2:a ||| b ||| c<2 ^ 20:=Nat.or_lt_two_pow h1 (by omega)
 refine ⟨((a ||| b ||| c:Nat):Int),(((a ||| b ||| c:Nat):Int) % 2 ^ L),?_,?_,?_⟩
 · rw [i64_or_nat a b (by omega) (by omega),i64_or_nat _ c (by omega) (by omega)]
 · have h62:(2:Int) ^ 62=4611686018427387904:=by decide
   exact bits_mask .i64 62 (by decide) wraps_i64 L (by omega) _ (by omega) (by rw [h62];omega)
 · have e:(((a ||| b ||| c:Nat):Int) % 2 ^ L)=(((a % 2 ^ L) ||| (b % 2 ^ L) ||| (c % 2 ^ L):Nat):Int):=by
    rw [←Nat.or_mod_two_pow,←Nat.or_mod_two_pow]
    norm_cast
   rw [e]
   unfold alB
   rw [Bool.eq_iff_iff]
   simp only [bne_iff_ne,ne_eq,Bool.not_eq_true',decide_eq_false_iff_not]
   have e1:((a:Int) % 2 ^ L=0) ↔ a % 2 ^ L=0:=by norm_cast
   have e2:((b:Int) % 2 ^ L=0) ↔ b % 2 ^ L=0:=by norm_cast
   have e3:((c:Int) % 2 ^ L=0) ↔ c % 2 ^ L=0:=by norm_cast
   rw [e1,e2,e3]
   generalize a % 2 ^ L=x
   generalize b % 2 ^ L=y
   generalize c % 2 ^ L=z
   have e4:(((x ||| y ||| z:Nat):Int)=0) ↔ (x=0∧y=0∧z=0):=by
    rw [show (((x ||| y ||| z:Nat):Int)=0) ↔ (x ||| y ||| z=0) by omega,Nat.or_eq_zero_iff,Nat.or_eq_zero_iff]
    omega
   rw [e4]
def partT:Tr→Nat→Nat→Pt→Tr
 | t,0,_,_=>t
 | t,n+1,L,p=>if L<n+3 then (match t with | .node _ ch=>partT (ch (Tr.oct n p)) n L p | t=>t) else t
theorem part_in (w:World) (sb n:Nat) (hn:n≤12) (id px py pz lv:Int) (hI:inB ⟨px,py,pz⟩ (cubeB (2 ^ (n+2)))=false) :
 Calls Tryz.prog 38 #[.pointer (some ⟨sb,0,none⟩),id,.int .i64 ((n:Int)+2),.agg #[px,py,pz],lv] w fun e w'=>e=ret2 0 1∧Below w.heap.size w w':=by
 have hin:=fun W=>isIn_any (n+2) (by omega) px py pz W
 rw [show ((n+2:Nat):Int)=(n:Int)+2 by omega] at hin
 simp only [hI] at hin
 replace hin:=Bx.mk hin
 clear hI
 go_enter Tryz.func38,Tryz.ntmps38
 go_wp2_with fail
 generalize hW:World.alloc w _=W
 have hSz:=sz1 hW
 have hB:=bl1 hW
 have kp:Bk W (w.heap.size) #[px,py,pz] 23:=bk0 hW
 clear hW
 obtain ⟨cp0,cp1,cp2⟩:=kp.r3
 have q0:=Bx.mk fun dk osk=>Calls.regrown_of (hin.out (grow (redrawn W dk) osk))
 refine wp_region_quiet_below (by kernel_rfl) (by kernel_rfl) ?_
 repeat (first | go_big_quiet_step ((first | with_reducible exact q0.out _ _)) | quiet_step (first | with_reducible exact q0.out _ _))
 refine wpQuiet_nil ?_
 rintro _ ⟨⟨dq,osq⟩,rfl⟩
 have hb:=below_regrown W dq osq
 clear cp0 cp1 cp2
 clear q0
 replace hB:=hB.trans (hb.mono hB.size)
 replace kp:=kp.later hb
 replace hSz:=Nat.le_trans hSz hb.size
 clear hb
 generalize grow (redrawn W dq) osq=W1 at *
 go_wp2_with fail
 go_ret2
 exact ⟨rfl,hB⟩
theorem part_lo (w:World) (sb n:Nat) (hn:n≤12) (id px py pz lv:Int) (hI:inB ⟨px,py,pz⟩ (cubeB (2 ^ (n+2)))=true) (h1:lv<2) :
 Calls Tryz.prog 38 #[.pointer (some ⟨sb,0,none⟩),id,.int .i64 ((n:Int)+2),.agg #[px,py,pz],lv] w fun e w'=>e=ret2 0 1∧Below w.heap.size w w':=by
 have hin:=fun W=>isIn_any (n+2) (by omega) px py pz W
 rw [show ((n+2:Nat):Int)=(n:Int)+2 by omega] at hin
 simp only [hI] at hin
 replace hin:=Bx.mk hin
 have t1:decide (lv<2)=true:=by simpa using h1
 clear hI
 go_enter Tryz.func38,Tryz.ntmps38
 go_wp2_with fail
 generalize hW:World.alloc w _=W
 have hSz:=sz1 hW
 have hB:=bl1 hW
 have kp:Bk W (w.heap.size) #[px,py,pz] 23:=bk0 hW
 clear hW
 obtain ⟨cp0,cp1,cp2⟩:=kp.r3
 have q0:=Bx.mk fun dk osk=>Calls.regrown_of (hin.out (grow (redrawn W dk) osk))
 refine wp_region_quiet_below (by kernel_rfl) (by kernel_rfl) ?_
 repeat (first | go_big_quiet_step ((first | with_reducible exact q0.out _ _)) | quiet_step (first | with_reducible exact q0.out _ _))
 refine wpQuiet_nil ?_
 rintro _ ⟨⟨dq,osq⟩,rfl⟩
 have hb:=below_regrown W dq osq
 clear cp0 cp1 cp2
 clear q0
 replace hB:=hB.trans (hb.mono hB.size)
 replace kp:=kp.later hb
 replace hSz:=Nat.le_trans hSz hb.size
 clear hb
 generalize grow (redrawn W dq) osq=W1 at *
 go_wp2_with fail
 go_ret2
 exact ⟨rfl,hB⟩
theorem part_hi (w:World) (sb n:Nat) (hn:n≤12) (id px py pz lv:Int) (hI:inB ⟨px,py,pz⟩ (cubeB (2 ^ (n+2)))=true) (h1 : ¬lv<2) (h2:(n:Int)+2<lv) :
 Calls Tryz.prog 38 #[.pointer (some ⟨sb,0,none⟩),id,.int .i64 ((n:Int)+2),.agg #[px,py,pz],lv] w fun e w'=>e=ret2 0 1∧Below w.heap.size w w':=by
 have hin:=fun W=>isIn_any (n+2) (by omega) px py pz W
 rw [show ((n+2:Nat):Int)=(n:Int)+2 by omega] at hin
 simp only [hI] at hin
 replace hin:=Bx.mk hin
 have t1:decide (lv<2)=false:=by simpa using h1
 have t2:decide ((n:Int)+2<lv)=true:=by simpa using h2
 clear hI
 go_enter Tryz.func38,Tryz.ntmps38
 go_wp2_with fail
 generalize hW:World.alloc w _=W
 have hSz:=sz1 hW
 have hB:=bl1 hW
 have kp:Bk W (w.heap.size) #[px,py,pz] 23:=bk0 hW
 clear hW
 obtain ⟨cp0,cp1,cp2⟩:=kp.r3
 have q0:=Bx.mk fun dk osk=>Calls.regrown_of (hin.out (grow (redrawn W dk) osk))
 refine wp_region_quiet_below (by kernel_rfl) (by kernel_rfl) ?_
 repeat (first | go_big_quiet_step ((first | with_reducible exact q0.out _ _)) | quiet_step (first | with_reducible exact q0.out _ _))
 refine wpQuiet_nil ?_
 rintro _ ⟨⟨dq,osq⟩,rfl⟩
 have hb:=below_regrown W dq osq
 clear cp0 cp1 cp2
 clear q0
 replace hB:=hB.trans (hb.mono hB.size)
 replace kp:=kp.later hb
 replace hSz:=Nat.le_trans hSz hb.size
 clear hb
 generalize grow (redrawn W dq) osq=W1 at *
 go_wp2_with fail
 go_ret2
 exact ⟨rfl,hB⟩
theorem part_al (w:World) (sb n L:Nat) (hn:n≤12) (hL:2≤L) (hL2:L≤n+2) (id px py pz:Int) (hI:inB ⟨px,py,pz⟩ (cubeB (2 ^ (n+2)))=true) (hA:alB L ⟨px,py,pz⟩=false) :
 Calls Tryz.prog 38 #[.pointer (some ⟨sb,0,none⟩),id,.int .i64 ((n:Int)+2),.agg #[px,py,pz],(L:Int)] w fun e w'=>e=ret2 0 1∧Below w.heap.size w w':=by
 have hin:=fun W=>isIn_any (n+2) (by omega) px py pz W
 rw [show ((n+2:Nat):Int)=(n:Int)+2 by omega] at hin
 simp only [hI] at hin
 replace hin:=Bx.mk hin
 obtain ⟨rx,ry,rz⟩:=in_range hn hI
 obtain ⟨q,r,hq,hr,hrz⟩:=al_bits L (by omega) px py pz rx ry rz
 rw [hA] at hrz
 have hrz2:(r == 0)=false:=by simpa [bne] using hrz
 obtain ⟨mL,hmL⟩ : ∃ mL,mL=(2:Int) ^ L:=⟨_,rfl⟩
 have hp:IntKind.i64.wrap ((2:Int) ^ L)=mL:=by rw [pow_wrap (by omega),hmL]
 have hml:=pow_le (show L≤14 by omega)
 rw [←hmL] at hr hml
 have hm1:IntKind.i64.wrap (mL - 1)=mL - 1:=IntWalk.i64_in _ (by omega)
 have t1:decide ((L:Int)<2)=false:=by simp;omega
 have t2:decide ((n:Int)+2<(L:Int))=false:=by simp;omega
 clear hI hA rx ry rz hmL
 go_enter Tryz.func38,Tryz.ntmps38
 go_wp2_with fail
 generalize hW:World.alloc w _=W
 have hSz:=sz1 hW
 have hB:=bl1 hW
 have kp:Bk W (w.heap.size) #[px,py,pz] 23:=bk0 hW
 clear hW
 obtain ⟨cp0,cp1,cp2⟩:=kp.r3
 have q0:=Bx.mk fun dk osk=>Calls.regrown_of (hin.out (grow (redrawn W dk) osk))
 refine wp_region_quiet_below (by kernel_rfl) (by kernel_rfl) ?_
 repeat (first | go_big_quiet_step ((first | with_reducible exact q0.out _ _)) | quiet_step (first | with_reducible exact q0.out _ _))
 refine wpQuiet_nil ?_
 rintro _ ⟨⟨dq,osq⟩,rfl⟩
 have hb:=below_regrown W dq osq
 clear cp0 cp1 cp2
 clear q0
 replace hB:=hB.trans (hb.mono hB.size)
 replace kp:=kp.later hb
 replace hSz:=Nat.le_trans hSz hb.size
 clear hb
 generalize grow (redrawn W dq) osq=W1 at *
 go_wp2_with fail
 go_ret2
 exact ⟨rfl,hB⟩
theorem partT_stop {u:Tr} {m L:Nat} {p:Pt} (h:m+2≤L):partT u m L p=u:=by
 cases m with
 | zero=>rw [partT]
 | succ m=>unfold partT;rw [if_neg (by omega)]
theorem partT_uni {c:Int} {m L:Nat} {p:Pt}:partT (.uni c) m L p = .uni c:=by
 cases m with
 | zero=>rw [partT]
 | succ m=>unfold partT;split <;> rfl
theorem partT_node {ch:Fin 8→Tr} {m L d:Nat} {p:Pt} (h:L<m+3):partT (.node d ch) (m+1) L p=partT (ch (Tr.oct m p)) m L p:=by
 conv=>lhs;unfold partT
 rw [if_pos h]
theorem partT_in {ts:List Tr} (hG:Good ts) (L:Nat) (p:Pt) : ∀ (m:Nat) (u:Tr),u∈ts→Dep m u→partT u m L p∈ts:=by
 intro m
 induction m with
 | zero=>intro u h _;rw [partT];exact h
 | succ m ih =>
   intro u h hD
   by_cases hL:L<m+3
   · cases hD with
     | uni _ c=>rw [partT_uni];exact h
     | node _ ch hch=>rw [partT_node hL];exact ih _ (hG.closed.2 _ _ h _) (hch _)
   · rw [partT_stop (by omega)];exact h
theorem node_kid_at {w:World} {g i:Nat} {ts:List Tr} {ch:Fin 8→Tr} {v0 v1 v2 v3:Value} (hc : ∀ j u,j<12→(#[v0,v1,v2,v3,(idT ts (ch 0):Int),(idT ts (ch 1):Int),(idT ts (ch 2):Int),(idT ts (ch 3):Int),(idT ts (ch 4):Int),(idT ts (ch 5):Int),(idT ts (ch 6):Int),(idT ts (ch 7):Int)]:Array Value).toList[j]? = some u→w.cell? ⟨g,i * 12+j,none⟩=some u) : ∀ k:Fin 8,w.cell? ⟨g,i * 12+4+k.val,none⟩=some (.int .i64 (idT ts (ch k):Int)) :=
 fun k=>by
  rw [Nat.add_assoc]
  exact fin8 (P:=fun k=>w.cell? ⟨g,i * 12+(4+k.val),none⟩=some (.int .i64 (idT ts (ch k):Int))) (hc 4 _ (by omega) rfl) (hc 5 _ (by omega) rfl) (hc 6 _ (by omega) rfl) (hc 7 _ (by omega) rfl) (hc 8 _ (by omega) rfl) (hc 9 _ (by omega) rfl) (hc 10 _ (by omega) rfl) (hc 11 _ (by omega) rfl) k
set_option maxRecDepth 100000 in
set_option maxHeartbeats 1000000 in
theorem part_ok (w:World) (sb n L:Nat) (hn:n≤12) (hL:2≤L) (hL2:L≤n+2) (px py pz:Int) (hI:inB ⟨px,py,pz⟩ (cubeB (2 ^ (n+2)))=true) (hA:alB L ⟨px,py,pz⟩=true) (Far:Nat→Prop) (most:Int) (ts:List Tr) (t:Tr) (ht:t∈ts) (hD:Dep n t) (hG:Good ts) (_hlen:ts.length≤1000000000000) (hS:StoreIs w Far sb most ts) :
 Calls Tryz.prog 38 #[.pointer (some ⟨sb,0,none⟩),(idT ts t:Int),.int .i64 ((n:Int)+2),.agg #[px,py,pz],(L:Int)] w fun e w'=>e=ret2 (idT ts (partT t n L ⟨px,py,pz⟩):Int) 0∧Below w.heap.size w w':=by
 have hin:=fun W=>isIn_any (n+2) (by omega) px py pz W
 rw [show ((n+2:Nat):Int)=(n:Int)+2 by omega] at hin
 simp only [hI] at hin
 replace hin:=Bx.mk hin
 obtain ⟨rx,ry,rz⟩:=in_range hn hI
 obtain ⟨q,r,hq,hr,hrz⟩:=al_bits L (by omega) px py pz rx ry rz
 rw [hA] at hrz
 have hrz2:(r == 0)=true:=by simpa [bne] using hrz
 obtain ⟨mL,hmL⟩ : ∃ mL,mL=(2:Int) ^ L:=⟨_,rfl⟩
 have hp:IntKind.i64.wrap ((2:Int) ^ L)=mL:=by rw [pow_wrap (by omega),hmL]
 have hml:=pow_le (show L≤14 by omega)
 rw [←hmL] at hr hml
 have hm1:IntKind.i64.wrap (mL - 1)=mL - 1:=IntWalk.i64_in _ (by omega)
 have t1:decide ((L:Int)<2)=false:=by simp;omega
 have t2:decide ((n:Int)+2<(L:Int))=false:=by simp;omega
 obtain ⟨rr,hrr⟩ : ∃ rr,rr=partT t n L ⟨px,py,pz⟩:=⟨_,rfl⟩
 have HR:Bx (t∈ts∧Dep n t∧partT t n L ⟨px,py,pz⟩=rr):=Bx.mk (And.intro ht (And.intro hD hrr.symm))
 rw [←hrr]
 have HX:=Bx.mk (And.intro rx (And.intro ry rz))
 have HS:=Bx.mk hS
 have HG:=Bx.mk hG
 clear hI hA rx ry rz hmL hrr ht hD hS hG
 go_enter Tryz.func38,Tryz.ntmps38
 go_wp2_with fail
 generalize hW:World.alloc w _=W
 have hSz:=sz1 hW
 have hB:=bl1 hW
 have kp:Bk W (w.heap.size) #[px,py,pz] 23:=bk0 hW
 clear hW
 obtain ⟨cp0,cp1,cp2⟩:=kp.r3
 have q0:=Bx.mk fun dk osk=>Calls.regrown_of (hin.out (grow (redrawn W dk) osk))
 refine wp_region_quiet_below (by kernel_rfl) (by kernel_rfl) ?_
 repeat (first | go_big_quiet_step ((first | with_reducible exact q0.out _ _)) | quiet_step (first | with_reducible exact q0.out _ _))
 refine wpQuiet_nil ?_
 rintro _ ⟨⟨dq,osq⟩,rfl⟩
 have hb:=below_regrown W dq osq
 clear cp0 cp1 cp2
 clear q0
 replace hB:=hB.trans (hb.mono hB.size)
 replace kp:=kp.later hb
 replace hSz:=Nat.le_trans hSz hb.size
 clear hb
 generalize grow (redrawn W dq) osq=W1 at *
 go_wp2_with fail
 have HB:=Bx.mk hB
 have HP:=Bx.mk kp
 clear hB hSz kp hq hr hrz hrz2 hp hm1 t1 t2 hin
 go_loopw [1,2] (fun vi vd wr => ∃ (m:Nat) (u:Tr),vi = .int .i64 (idT ts u:Int)∧vd = .int .i64 ((m:Int)+2)∧m≤12∧Bx (u∈ts∧Dep m u∧partT u m L ⟨px,py,pz⟩=rr)∧Bx (Below w.heap.size w wr)∧Bx (Bk wr w.heap.size #[px,py,pz] 23)) (fun _ vd _=>(intOf vd).toNat)
 case atStart=>exact ⟨n,t,rfl,rfl,hn,HR,HB,HP⟩
 case round =>
  clear HR HB HP
  obtain ⟨m,u,rfl,rfl,hm,HR,HB,HP⟩:=hrel
  obtain ⟨hu,hD,hr⟩:=HR.out
  by_cases hlt:L<m+2
  · have t3:decide ((L:Int)<(m:Int)+2)=true:=by simp;omega
    have hSr:=HS.out.later HB.out
    cases hD with
    | brick l=>omega
    | uni _ c =>
      obtain ⟨g,cap,mb,ks,hi,hc⟩:=Bx.node hSr hu (k:=1) (c:=c) rfl
      have hru:Bx (Tr.uni c=rr):=⟨by rw [←hr,partT_uni]⟩
      have cs1:=ks.cell 1 rfl
      have d0:=hc.out 0 _ (by omega) rfl
      rw [Nat.add_zero] at d0
      have b1:(0:Int)≤(idT ts (.uni c):Int):=by omega
      have b2:(idT ts (.uni c):Int)<(ts.length:Int):=by omega
      clear ks hc hSr hu hr HR HX HS HG
      go_wp2_with fail
      go_ret2
      exact ⟨congrArg (fun x=>ret2 (idT ts x:Int) 0) hru.out,HB.out⟩
    | node m ch hch =>
      obtain ⟨g,cap,mb,ks,hi,hc⟩:=Bx.node hSr hu (k:=3) (s:=ByteArray.empty) rfl
      have HR2:Bx (ch (Tr.oct m ⟨px,py,pz⟩)∈ts∧Dep m (ch (Tr.oct m ⟨px,py,pz⟩))∧partT (ch (Tr.oct m ⟨px,py,pz⟩)) m L ⟨px,py,pz⟩=rr):=⟨HG.out.closed.2 _ _ hu _,hch _,by rw [←hr,partT_node (by omega)]⟩
      have cs1:=ks.cell 1 rfl
      have d0:=hc.out 0 _ (by omega) rfl
      rw [Nat.add_zero] at d0
      have nk:=node_kid_at hc.out (Tr.oct m ⟨px,py,pz⟩)
      have b1:(0:Int)≤(idT ts (.node (m+3) ch):Int):=by omega
      have b2:(idT ts (.node (m+3) ch):Int)<(ts.length:Int):=by omega
      have hoct:=Bx.mk (fun W dd hd=>octant_at m (by omega) dd hd px py pz HX.out.1 HX.out.2.1 HX.out.2.2 W)
      have Ks:=Bx.mk ks
      have Nk:=Bx.mk nk
      clear ks hc hSr hu hr HR HX HS HG nk hch
      generalize hok:Tr.oct m ⟨px,py,pz⟩=ok at *
      clear hok
      have hkid:(0:Int)≤(idT ts (ch ok):Int):=by omega
      go_wp2_with fail
      have s1 : ∀ dk osk,(grow (redrawn wr dk) osk).cell? ⟨sb,1,none⟩=some (.slice (some ⟨g,0,none⟩) ts.length cap):=cell_regrown (Ks.out.cell 1 rfl)
      have n1 : ∀ dk osk,(grow (redrawn wr dk) osk).cell? ⟨g,idT ts (.node (m+3) ch) * 12+4+ok.val,none⟩=some (.int .i64 (idT ts (ch ok):Int)):=cell_regrown Nk.out
      have b3:(0:Int)≤(ok.val:Int):=by omega
      have b4:(ok.val:Int)<8:=by have:=ok.isLt;omega
      have kp:=HP.out
      have hB:=HB.out
      have hSz:w.heap.size≤wr.heap.size:=hB.size
      clear HB HP cs1 d0
      obtain ⟨cp0,cp1,cp2⟩:=kp.r3
      have q0:=Bx.mk fun dk osk=>Calls.regrown_of (hoct.out (grow (redrawn wr dk) osk) ((m:Int)+1+2) (by omega))
      refine wp_region_quiet_below (by kernel_rfl) (by kernel_rfl) ?_
      repeat (first | go_big_quiet_step ((first | with_reducible exact q0.out _ _)) | quiet_step (first | with_reducible exact q0.out _ _))
      refine wpQuiet_nil ?_
      rintro _ ⟨⟨dq,osq⟩,rfl⟩
      have hb:=below_regrown wr dq osq
      clear cp0 cp1 cp2
      clear q0
      replace hB:=hB.trans (hb.mono hB.size)
      replace kp:=kp.later hb
      replace hSz:=Nat.le_trans hSz hb.size
      clear hb
      generalize grow (redrawn wr dq) osq=w4 at *
      clear s1 n1
      have HB:=Bx.mk hB
      have HP:=Bx.mk kp
      clear hB kp hSz hoct
      go_wp2_with fail
      go_roundw
      case rel=>exact ⟨m,_,rfl,by go_num,by omega,HR2,HB,HP⟩
      case measure=>simp [intOf];omega
  · have t3:decide ((L:Int)<(m:Int)+2)=false:=by simp;omega
    have hru:Bx (u=rr):=⟨by rw [←hr,partT_stop (by omega)]⟩
    clear HX HS HG HR hu hD hr
    go_wp2_with fail
    go_ret2
    exact ⟨congrArg (fun x=>ret2 (idT ts x:Int) 0) hru.out,HB.out⟩
end
section
open Go.RowKit Go.Sort Go.Maps
open Oct
theorem MapFn.same {w w':World} {b n:Nat} {f:Value→Option Int} (h:MapFn w b n f) (hk:w'.heap[b]? = w.heap[b]?):MapFn w' b n f:=by
 obtain ⟨D,⟨es,clock,hb,F,hs,hd⟩,h2,h3⟩:=h
 exact ⟨D,⟨es,clock,hk.trans hb,F,hs,hd⟩,h2,h3⟩
theorem ownsRow_same {w w':World} {B:Nat} {e:TypeId} {sz:Nat} {v:Value} {n:Nat} {xs:List Value} (h:w.ownsRow B e sz v n xs) (hk : ∀ g,v.ownBlock=some g→w'.heap[g]? = w.heap[g]?):w'.ownsRow B e sz v n xs:=by
 refine ⟨h.1,h.2.imp id ?_⟩
 rintro ⟨g,cap,cur,rfl,h2,h3,h4⟩
 exact ⟨g,cap,cur,rfl,h2,(hk g rfl).trans h3,h4⟩
theorem StoreIs.other {w w':World} {Far Far':Nat→Prop} {sb:Nat} {most:Int} {ts:List Tr} (h:StoreIs w Far' sb most ts) (hk:Keeps Far w w') (hf : ∀ k,¬Far' k→k<w.heap.size→Far k):StoreIs w' Far' sb most ts:=by
 obtain ⟨mb,nv,h1,h2,h3,P⟩:=h.parts
 have hb : ∀ k,¬Far' k→k<w.heap.size→w'.heap[k]? = w.heap[k]? := fun k h4 h5=>hk.block k (hf k h4 h5) h5
 refine StoreIs.of ((hb sb P.fs h1.lt).trans h1) (ownsRow_same h2 (fun g hg=>hb g (P.fn g hg) (World.ownsRow.lt h2 g hg).2)) (h3.same (hb mb P.fm h3.lt)) P
theorem Grew.fit {Far:Nat→Prop} {sb:Nat} {most:Int} {ts ts':List Tr} {t:Tr} {w w':World} {e:Ending} (h:Grew Far sb most ts ts' t w e w') (hf:Tr.Fits most ts ts'):e=ret2 (idT ts' t:Int) 0∧StoreIs w' Far sb most ts'∧Keeps Far w w':=by
 rcases h.way with ⟨_,h2,h3⟩ | ⟨h1,_⟩
 · exact ⟨h2,h3,h.keeps⟩
 · exact absurd hf h1
theorem Done.fit {Far:Nat→Prop} {sb:Nat} {most:Int} {ts ts':List Tr} {t:Tr} {w w':World} {e:Ending} (h:Done Far sb most ts ts' t w e w') (hf:Tr.Fits most ts ts'):e=ret2 (idT ts' t:Int) 0∧StoreIs w' Far sb most ts'∧Keeps Far w w':=by
 rcases h.way with ⟨_,h2,h3⟩ | ⟨h1,_⟩
 · exact ⟨h2,h3,h.keeps⟩
 · exact absurd hf h1
theorem below_of_keeps {w w1 w2:World} {Far:Nat→Prop} (hb:Below w.heap.size w w1) (hk:Keeps Far w1 w2) (hf : ∀ k,k<w.heap.size→Far k):Below w.heap.size w w2 :=
 ⟨hk.os.trans hb.os,hk.tape.trans hb.tape,hk.output.trans hb.output,Nat.le_trans hb.size hk.size,fun k h=>(hk.block k (hf k h) (Nat.lt_of_lt_of_le h hb.size)).trans (hb.block k h)⟩
end
end Go.Proofs.YtfcbajmjaifjlaaGreat
