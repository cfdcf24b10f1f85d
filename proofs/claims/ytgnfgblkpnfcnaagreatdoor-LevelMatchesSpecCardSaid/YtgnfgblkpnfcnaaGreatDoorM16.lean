/- Frm, Set, Set2, SanP, Ref: joined by program, for one claim. -/
import Derived.Test.YtgnfgblkpnfcnaaGreatDoorM15
import Derived.Laws.EntriesVeiled
set_option maxHeartbeats 1000000
set_option maxRecDepth 100000
set_option linter.unusedVariables false
set_option linter.unusedSimpArgs false
namespace Go.Proofs.YtgnfgblkpnfcnaaGreatDoor
section
open Go.RowKit Go.Sort Go.Maps
open Oct
theorem zA7 (n:Nat):Tr.Al n ⟨0,0,0⟩:=by unfold Tr.Al;simp
theorem zEO (w:World) (Far:Nat→Prop) (pg ps pb sb:Nat) (a b c d e f:Int) (ha:Option Addr) (hcp:Nat) (xs:List Int) (HC:Bx (BCtx w Far pg ps pb sb a b c d e f ha hcp xs)) (HX:GoodH ⟨⟨a,b,c⟩,⟨d,e,f⟩⟩ xs hcp) (pd n:Nat) (hn:n≤12) (kd:Bk w pd #[.int .i64 ((n:Int)+2)] 3) (most:Int) (ts:List Tr) (hG:Good ts) (hlen:(Tr.add (Tr.can (zF ⟨⟨a,b,c⟩,⟨d,e,f⟩⟩ xs) n ⟨0,0,0⟩) ts).length≤1000000000000) (hFar : ∀ k,Far k→k<w.heap.size) (hS:StoreIs w Far sb most ts) :
 Calls Tryz.prog 86 #[.pointer (some ⟨pb,0,none⟩),.pointer (some ⟨pd,0,none⟩)] w (Grew Far sb most ts (Tr.add (Tr.can (zF ⟨⟨a,b,c⟩,⟨d,e,f⟩⟩ xs) n ⟨0,0,0⟩) ts) (Tr.can (zF ⟨⟨a,b,c⟩,⟨d,e,f⟩⟩ xs) n ⟨0,0,0⟩) w):=by
 have hp:=zn (show n+2≤14 by omega)
 have hb:=Bx.mk (zBm n hn w Far pg ps pb sb a b c d e f ha hcp xs HC HX 0 0 0 (zA7 n) (by omega) (by omega) (by omega) most ts hG hlen hFar hS)
 have cd:=kd.cell 0 rfl;have cb:=HC.out.kb.cell 0 rfl;clear kd hp hlen hG hFar hS HX;generalize (Tr.can (zF ⟨⟨a,b,c⟩,⟨d,e,f⟩⟩ xs) n ⟨0,0,0⟩)=T at *;go_enter Tryz.func86,Tryz.ntmps86;go_wp2_with fail;refine hb.out.mono ?_;rintro e w1 hg;have Hg:=Bx.mk hg;obtain ⟨-,-,(⟨hf,rfl,hs⟩ | ⟨hf,rfl,us,hs⟩)⟩:=hg
 all_goals
  clear hf hs;go_wp2_with fail
  go_ret2
  exact Hg.out
theorem Done.since {w W w':World} {Far Far':Nat→Prop} {sb:Nat} {most:Int} {ts ts':List Tr} {t:Tr} {e:Ending} (h:Done Far' sb most ts ts' t W e w') (hb:Below w.heap.size w W) (hf : ∀ k,Far k→Far' k):Done Far sb most ts ts' t w e w':=by
 refine ⟨(Keeps.below hb).trans (h.keeps.less hf),Nat.le_trans hb.size h.size,?_⟩;rcases h.way with ⟨h1,h2,h3⟩ | ⟨h1,h2,h3⟩
 · exact .inl ⟨h1,h2,h3.less hf⟩
 · exact .inr ⟨h1,h2,h3.less hf⟩
theorem zES (w:World) (sb:Nat) (a b c d e f:Int) (ha:Option Addr) (hcp:Nat) (xs:List Int) (n:Nat) (hn:n≤12) (m:Int) (hm:m=2 ^ (n+2)) (hl:xs.length≤1000000000) (hsl:Sl w .i64 ha xs) (HX:GoodH ⟨⟨a,b,c⟩,⟨d,e,f⟩⟩ xs hcp) (hV:zAB ⟨⟨a,b,c⟩,⟨d,e,f⟩⟩ xs=true) (hE:zN ⟨⟨a,b,c⟩,⟨d,e,f⟩⟩=true) (Far:Nat→Prop) (hfx:xs ≠ [] → ∀ b,ha.map (·.block)=some b→Far b) (most:Int) (ts:List Tr) (hG:Good ts) (hlen:(Tr.add (Tr.can (zF ⟨⟨a,b,c⟩,⟨d,e,f⟩⟩ xs) n ⟨0,0,0⟩) ts).length≤1000000000000) (hFar : ∀ k,Far k→k<w.heap.size) (hS:StoreIs w Far sb most ts) :
 Calls Tryz.prog 38 #[.pointer (some ⟨sb,0,none⟩),.agg #[a,b,c,d,e,f,.slice ha xs.length hcp],.int .i64 ((n:Int)+2)] w (Done Far sb most ts (Tr.add (Tr.can (zF ⟨⟨a,b,c⟩,⟨d,e,f⟩⟩ xs) n ⟨0,0,0⟩) ts) (Tr.can (zF ⟨⟨a,b,c⟩,⟨d,e,f⟩⟩ xs) n ⟨0,0,0⟩) w):=by
 have hwf:=zAD HX.range n ⟨0,0,0⟩ (by omega)
 have HW:=Bx.mk (fun W1 W5 hb pd kd hn5 HC=>zN9 W5 (fun x=>Far x∨(w.heap.size≤x∧x<W5.heap.size)) sb most ts (Tr.add (Tr.can (zF ⟨⟨a,b,c⟩,⟨d,e,f⟩⟩ xs) n ⟨0,0,0⟩) ts) (Tr.can (zF ⟨⟨a,b,c⟩,⟨d,e,f⟩⟩ xs) n ⟨0,0,0⟩) ⟨W1,0,none⟩ ⟨pd,0,none⟩ (zBa _ hG hwf) hlen
  ((hS.widen (fun k hk=>hk.imp id (fun h=>h.1))).later hb)
  (zEO W5 (fun x=>Far x∨(w.heap.size≤x∧x<W5.heap.size)) (w.heap.size+1) w.heap.size W1 sb a b c d e f ha hcp xs ⟨HC⟩ HX pd n hn kd most ts hG hlen (fun k hk=>hk.elim (fun h=>Nat.lt_of_lt_of_le (hFar k h) hn5) (fun h=>h.2)) ((hS.widen (fun k hk=>hk.imp id (fun h=>h.1))).later hb)))
 have hfx:=Bx.mk hfx;clear hwf HX hG hlen hFar hS;generalize (Tr.can (zF ⟨⟨a,b,c⟩,⟨d,e,f⟩⟩ xs) n ⟨0,0,0⟩)=T at *;have hvalid:=zNs a b c d e f ha hcp xs;have hempty:=zP a b c d e f;have hcube:=fun W=>zDD (n+2) (by omega) 0 0 0 m hm (by omega) (by omega) (by omega) W
 have hcon:=zCq 0 0 0 (0+m) (0+m) (0+m) a b c d e f;rw [show ((n+2:Nat):Int)=(n:Int)+2 by omega] at hcube
 simp only [hV] at hvalid;simp only [hE] at hempty;replace hvalid:=Bx.mk hvalid;replace hempty:=Bx.mk hempty;replace hcube:=Bx.mk hcube;replace hcon:=Bx.mk hcon;have hsl0:=Bx.mk hsl;have t1:decide ((n:Int)+2<2)=false:=by simp;omega
 have t2:decide (14<(n:Int)+2)=false:=by simp;omega
 have t3 : ¬((n:Int)+2<2):=by omega
 have t4 : ¬(14<(n:Int)+2):=by omega
 clear hsl hm hV hE;go_enter Tryz.func38,Tryz.ntmps38;go_upto_region 1 with fail;generalize hW:World.alloc (World.alloc (World.alloc w _) _) _=W;have hSz:=sz3 hW;have hB:=bl3 hW;have kr:Bk W (w.heap.size) #[.pointer (some ⟨sb,0,none⟩)] 31:=bk2 hW;have kg:Bk W (w.heap.size+1) #[a,b,c,d,e,f,.slice ha xs.length hcp] 28:=bk1 hW;have kd:Bk W (w.heap.size+1+1) #[.int .i64 ((n:Int)+2)] 3:=bk0 hW;clear hW;have cd0:=kd.cell 0 rfl;go_wp2_with fail;clear cd0;have hsl1:=Bx.mk (hsl0.out.below hB);obtain ⟨cg0,cg1,cg2,cg3,cg4,cg5,cg6⟩:=kg.r7;have cd0 : ∀ dk osk,(grow (redrawn W dk) osk).cell? ⟨w.heap.size+1+1,0,none⟩=some (.int .i64 ((n:Int)+2)):=cell_regrown (kd.cell 0 rfl);have q0:=Bx.mk fun dk osk=>Calls.regrown_of (hvalid.out (grow (redrawn W dk) osk) hl (hsl1.out.below (below_regrown W dk osk)));have q1:=Bx.mk fun dk osk=>Calls.regrown_of (hempty.out (grow (redrawn W dk) osk));refine wp_region_quiet_below (by kernel_rfl) (by kernel_rfl) ?_
 repeat (first | go_big_quiet_step ((first | with_reducible exact q0.out _ _ | with_reducible exact q1.out _ _)) | quiet_step (first | with_reducible exact q0.out _ _ | with_reducible exact q1.out _ _))
 refine wpQuiet_nil ?_;rintro _ ⟨⟨dq,osq⟩,rfl⟩;have hb:=below_regrown W dq osq;clear cg0 cg1 cg2 cg3 cg4 cg5 cg6;clear cd0;clear q0;clear q1;replace hB:=hB.trans (hb.mono hB.size);replace kr:=kr.later hb;replace kg:=kg.later hb;replace kd:=kd.later hb;replace hSz:=Nat.le_trans hSz hb.size;clear hb;generalize grow (redrawn W dq) osq=W1 at *;have crr : ∀ o,(W1.alloc o).cell? ⟨w.heap.size,0,none⟩=some (.pointer (some ⟨sb,0,none⟩)):=fun o=>(kr.alloc o).cell 0 rfl;go_wp2_with fail;generalize hW5:World.alloc W1 _=W5;have hb5:Below W1.heap.size W1 W5:=by rw [←hW5];exact zB _ _
 have kb:Bk W5 W1.heap.size #[.func (.func 82) #[] #[.pointer (some ⟨w.heap.size+1,0,none⟩),.pointer (some ⟨w.heap.size,0,none⟩),.pointer (some ⟨W1.heap.size,0,none⟩)]] 123:=bk0 hW5 rfl;have hs5:W5.heap.size=W1.heap.size+1:=by rw [←hW5];simp
 have hB5:=Bx.mk (hB.trans (hb5.mono hB.size));have HC:Bx (BCtx W5 (fun x=>Far x∨(w.heap.size≤x∧x<W5.heap.size)) (w.heap.size+1) w.heap.size W1.heap.size sb a b c d e f ha hcp xs):=⟨⟨kg.later hb5,kr.later hb5,kb,.inr ⟨by omega,by omega⟩,.inr ⟨by omega,by omega⟩,.inr ⟨by omega,by omega⟩,hsl0.out.below hB5.out,fun hx b hb=>.inl (hfx.out hx b hb)⟩⟩
 have kd5:=Bx.mk (kd.later hb5);clear hW5 kb hb5 crr kr kg kd hsl1;refine (HW.out _ W5 hB5.out _ kd5.out hB5.out.size HC.out).mono ?_;rintro e9 w9 hg;have Hg:=Bx.mk (hg.since (Far:=Far) hB5.out (fun k hk=>.inl hk));obtain ⟨-,-,(⟨hf,rfl,hs⟩ | ⟨hf,rfl,hs⟩)⟩:=hg
 all_goals
  clear hf hs;go_wp2_with fail
  go_ret2
  exact Hg.out
theorem zER (w:World) (sb:Nat) (a b c d e f:Int) (ha:Option Addr) (hcp:Nat) (xs:List Int) (n:Nat) (hn:n≤12) (m:Int) (hm:m=2 ^ (n+2)) (hl:xs.length≤1000000000) (hsl:Sl w .i64 ha xs) (HX:GoodH ⟨⟨a,b,c⟩,⟨d,e,f⟩⟩ xs hcp) (hV:zAB ⟨⟨a,b,c⟩,⟨d,e,f⟩⟩ xs=true) (hE:zN ⟨⟨a,b,c⟩,⟨d,e,f⟩⟩=false) (hC:zJ ⟨⟨0,0,0⟩,⟨m,m,m⟩⟩ ⟨⟨a,b,c⟩,⟨d,e,f⟩⟩=true) (Far:Nat→Prop) (hfx:xs ≠ [] → ∀ b,ha.map (·.block)=some b→Far b) (most:Int) (ts:List Tr) (hG:Good ts) (hlen:(Tr.add (Tr.can (zF ⟨⟨a,b,c⟩,⟨d,e,f⟩⟩ xs) n ⟨0,0,0⟩) ts).length≤1000000000000) (hFar : ∀ k,Far k→k<w.heap.size) (hS:StoreIs w Far sb most ts) :
 Calls Tryz.prog 38 #[.pointer (some ⟨sb,0,none⟩),.agg #[a,b,c,d,e,f,.slice ha xs.length hcp],.int .i64 ((n:Int)+2)] w (Done Far sb most ts (Tr.add (Tr.can (zF ⟨⟨a,b,c⟩,⟨d,e,f⟩⟩ xs) n ⟨0,0,0⟩) ts) (Tr.can (zF ⟨⟨a,b,c⟩,⟨d,e,f⟩⟩ xs) n ⟨0,0,0⟩) w):=by
 have hwf:=zAD HX.range n ⟨0,0,0⟩ (by omega)
 have HW:=Bx.mk (fun W1 W5 hb pd kd hn5 HC=>zN9 W5 (fun x=>Far x∨(w.heap.size≤x∧x<W5.heap.size)) sb most ts (Tr.add (Tr.can (zF ⟨⟨a,b,c⟩,⟨d,e,f⟩⟩ xs) n ⟨0,0,0⟩) ts) (Tr.can (zF ⟨⟨a,b,c⟩,⟨d,e,f⟩⟩ xs) n ⟨0,0,0⟩) ⟨W1,0,none⟩ ⟨pd,0,none⟩ (zBa _ hG hwf) hlen
  ((hS.widen (fun k hk=>hk.imp id (fun h=>h.1))).later hb)
  (zEO W5 (fun x=>Far x∨(w.heap.size≤x∧x<W5.heap.size)) (w.heap.size+1) w.heap.size W1 sb a b c d e f ha hcp xs ⟨HC⟩ HX pd n hn kd most ts hG hlen (fun k hk=>hk.elim (fun h=>Nat.lt_of_lt_of_le (hFar k h) hn5) (fun h=>h.2)) ((hS.widen (fun k hk=>hk.imp id (fun h=>h.1))).later hb)))
 have hfx:=Bx.mk hfx;clear hwf HX hG hlen hFar hS;generalize (Tr.can (zF ⟨⟨a,b,c⟩,⟨d,e,f⟩⟩ xs) n ⟨0,0,0⟩)=T at *;have hvalid:=zNs a b c d e f ha hcp xs;have hempty:=zP a b c d e f;have hcube:=fun W=>zDD (n+2) (by omega) 0 0 0 m hm (by omega) (by omega) (by omega) W
 have hcon:=zCq 0 0 0 (0+m) (0+m) (0+m) a b c d e f;rw [show ((n+2:Nat):Int)=(n:Int)+2 by omega] at hcube
 simp only [hV] at hvalid;simp only [hE] at hempty;simp only [Int.zero_add] at hcon hcube;simp only [hC] at hcon;replace hvalid:=Bx.mk hvalid;replace hempty:=Bx.mk hempty;replace hcube:=Bx.mk hcube;replace hcon:=Bx.mk hcon;have hsl0:=Bx.mk hsl;have t1:decide ((n:Int)+2<2)=false:=by simp;omega
 have t2:decide (14<(n:Int)+2)=false:=by simp;omega
 have t3 : ¬((n:Int)+2<2):=by omega
 have t4 : ¬(14<(n:Int)+2):=by omega
 clear hsl hm hV hE hC;go_enter Tryz.func38,Tryz.ntmps38;go_upto_region 1 with fail;generalize hW:World.alloc (World.alloc (World.alloc w _) _) _=W;have hSz:=sz3 hW;have hB:=bl3 hW;have kr:Bk W (w.heap.size) #[.pointer (some ⟨sb,0,none⟩)] 31:=bk2 hW;have kg:Bk W (w.heap.size+1) #[a,b,c,d,e,f,.slice ha xs.length hcp] 28:=bk1 hW;have kd:Bk W (w.heap.size+1+1) #[.int .i64 ((n:Int)+2)] 3:=bk0 hW;clear hW;have cd0:=kd.cell 0 rfl;go_wp2_with fail;clear cd0;have hsl1:=Bx.mk (hsl0.out.below hB);obtain ⟨cg0,cg1,cg2,cg3,cg4,cg5,cg6⟩:=kg.r7;have cd0 : ∀ dk osk,(grow (redrawn W dk) osk).cell? ⟨w.heap.size+1+1,0,none⟩=some (.int .i64 ((n:Int)+2)):=cell_regrown (kd.cell 0 rfl);have q0:=Bx.mk fun dk osk=>Calls.regrown_of (hvalid.out (grow (redrawn W dk) osk) hl (hsl1.out.below (below_regrown W dk osk)));have q1:=Bx.mk fun dk osk=>Calls.regrown_of (hempty.out (grow (redrawn W dk) osk));have q2:=Bx.mk fun dk osk=>Calls.regrown_of (hcube.out (grow (redrawn W dk) osk));have q3:=Bx.mk fun dk osk=>Calls.regrown_of (hcon.out (grow (redrawn W dk) osk));refine wp_region_quiet_below (by kernel_rfl) (by kernel_rfl) ?_
 repeat (first | go_big_quiet_step ((first | with_reducible exact q0.out _ _ | with_reducible exact q1.out _ _ | with_reducible exact q2.out _ _ | with_reducible exact q3.out _ _)) | quiet_step (first | with_reducible exact q0.out _ _ | with_reducible exact q1.out _ _ | with_reducible exact q2.out _ _ | with_reducible exact q3.out _ _))
 refine wpQuiet_nil ?_;rintro _ ⟨⟨dq,osq⟩,rfl⟩;have hb:=below_regrown W dq osq;clear cg0 cg1 cg2 cg3 cg4 cg5 cg6;clear cd0;clear q0;clear q1;clear q2;clear q3;replace hB:=hB.trans (hb.mono hB.size);replace kr:=kr.later hb;replace kg:=kg.later hb;replace kd:=kd.later hb;replace hSz:=Nat.le_trans hSz hb.size;clear hb;generalize grow (redrawn W dq) osq=W1 at *;have crr : ∀ o,(W1.alloc o).cell? ⟨w.heap.size,0,none⟩=some (.pointer (some ⟨sb,0,none⟩)):=fun o=>(kr.alloc o).cell 0 rfl;go_wp2_with fail;generalize hW5:World.alloc W1 _=W5;have hb5:Below W1.heap.size W1 W5:=by rw [←hW5];exact zB _ _
 have kb:Bk W5 W1.heap.size #[.func (.func 82) #[] #[.pointer (some ⟨w.heap.size+1,0,none⟩),.pointer (some ⟨w.heap.size,0,none⟩),.pointer (some ⟨W1.heap.size,0,none⟩)]] 123:=bk0 hW5 rfl;have hs5:W5.heap.size=W1.heap.size+1:=by rw [←hW5];simp
 have hB5:=Bx.mk (hB.trans (hb5.mono hB.size));have HC:Bx (BCtx W5 (fun x=>Far x∨(w.heap.size≤x∧x<W5.heap.size)) (w.heap.size+1) w.heap.size W1.heap.size sb a b c d e f ha hcp xs):=⟨⟨kg.later hb5,kr.later hb5,kb,.inr ⟨by omega,by omega⟩,.inr ⟨by omega,by omega⟩,.inr ⟨by omega,by omega⟩,hsl0.out.below hB5.out,fun hx b hb=>.inl (hfx.out hx b hb)⟩⟩
 have kd5:=Bx.mk (kd.later hb5);clear hW5 kb hb5 crr kr kg kd hsl1;refine (HW.out _ W5 hB5.out _ kd5.out hB5.out.size HC.out).mono ?_;rintro e9 w9 hg;have Hg:=Bx.mk (hg.since (Far:=Far) hB5.out (fun k hk=>.inl hk));obtain ⟨-,-,(⟨hf,rfl,hs⟩ | ⟨hf,rfl,hs⟩)⟩:=hg
 all_goals
  clear hf hs;go_wp2_with fail
  go_ret2
  exact Hg.out
structure SCtx (w:World) (Far:Nat→Prop) (ps pc pp pb sb:Nat) (c px py pz:Int):Prop where
 kr:Bk w ps #[.pointer (some ⟨sb,0,none⟩)] 31
 kc:Bk w pc #[c] 3
 kp:Bk w pp #[px,py,pz] 23
 kb:Bk w pb #[.func (.func 64) #[] #[.pointer (some ⟨ps,0,none⟩),.pointer (some ⟨pc,0,none⟩),.pointer (some ⟨pp,0,none⟩),.pointer (some ⟨pb,0,none⟩)]] 81
 fr:Far ps
 fc:Far pc
 fp:Far pp
 fb:Far pb
section
variable {w w':World} {Far Far':Nat→Prop} {ps pc pp pb sb:Nat} {c px py pz:Int}
theorem SCtx.far (h:SCtx w Far ps pc pp pb sb c px py pz) (hk:Keeps Far w w'):SCtx w' Far ps pc pp pb sb c px py pz :=
 ⟨h.kr.far hk h.fr,h.kc.far hk h.fc,h.kp.far hk h.fp,h.kb.far hk h.fb,h.fr,h.fc,h.fp,h.fb⟩
theorem SCtx.later (h:SCtx w Far ps pc pp pb sb c px py pz) (hb:Below w.heap.size w w'):SCtx w' Far ps pc pp pb sb c px py pz:=h.far (Keeps.below hb)
theorem SCtx.wider (h:SCtx w Far ps pc pp pb sb c px py pz) (hf : ∀ k,Far k→Far' k):SCtx w Far' ps pc pp pb sb c px py pz :=
 ⟨h.kr,h.kc,h.kp,h.kb,hf _ h.fr,hf _ h.fc,hf _ h.fp,hf _ h.fb⟩
theorem SCtx.apart {g:Nat} (h:SCtx w Far ps pc pp pb sb c px py pz) (hg:w.grownBy w' (some g)) (hf : ∀ k,Far k→g ≠ k):SCtx w' Far ps pc pp pb sb c px py pz :=
 ⟨h.kr.grownO hg (by simpa using hf _ h.fr),h.kc.grownO hg (by simpa using hf _ h.fc),h.kp.grownO hg (by simpa using hf _ h.fp),h.kb.grownO hg (by simpa using hf _ h.fb),h.fr,h.fc,h.fp,h.fb⟩
end
end
section
open Go.RowKit Go.Sort Go.Maps
open Oct
attribute [local go_sem ↓] Go.wp_at_zero Go.wp_at_succ
theorem zN8 {ts:List Tr} (hG:Good ts) : ∀ (t:Tr),t∈ts→Tr.WF t:=by
 intro t
 induction t with
 | uni c=>intro h;exact (hG.bytes _ h).unis c rfl
 | brick l=>intro h;exact (hG.bytes _ h).bricks l rfl
 | node d ch ih=>intro h;exact ⟨(hG.bytes _ h).nodes d ch rfl,fun i=>ih i (hG.closed.2 d ch h i)⟩
end
section
open Go.RowKit Go.Sort Go.Maps
open Oct
theorem MapFn.same {w w':World} {b n:Nat} {f:Value→Option Int} (h:MapFn w b n f) (hk:w'.heap[b]? = w.heap[b]?):MapFn w' b n f:=by
 obtain ⟨D,⟨es,clock,hb,F,hs,hd⟩,h2,h3⟩:=h;exact ⟨D,⟨es,clock,hk.trans hb,F,hs,hd⟩,h2,h3⟩
theorem zJD {w w':World} {B:Nat} {e:TypeId} {sz:Nat} {v:Value} {n:Nat} {xs:List Value} (h:w.ownsRow B e sz v n xs) (hk : ∀ g,v.ownBlock=some g→w'.heap[g]? = w.heap[g]?):w'.ownsRow B e sz v n xs:=by
 refine ⟨h.1,h.2.imp id ?_⟩;rintro ⟨g,cap,cur,rfl,h2,h3,h4⟩;exact ⟨g,cap,cur,rfl,h2,(hk g rfl).trans h3,h4⟩
theorem StoreIs.other {w w':World} {Far Far':Nat→Prop} {sb:Nat} {most:Int} {ts:List Tr} (h:StoreIs w Far' sb most ts) (hk:Keeps Far w w') (hf : ∀ k,¬Far' k→k<w.heap.size→Far k):StoreIs w' Far' sb most ts:=by
 obtain ⟨mb,nv,h1,h2,h3,P⟩:=h.parts;have hb : ∀ k,¬Far' k→k<w.heap.size→w'.heap[k]? = w.heap[k]? := fun k h4 h5=>hk.block k (hf k h4 h5) h5;refine StoreIs.of ((hb sb P.fs h1.lt).trans h1) (zJD h2 (fun g hg=>hb g (P.fn g hg) (World.ownsRow.lt h2 g hg).2)) (h3.same (hb mb P.fm h3.lt)) P
theorem Grew.fit {Far:Nat→Prop} {sb:Nat} {most:Int} {ts ts':List Tr} {t:Tr} {w w':World} {e:Ending} (h:Grew Far sb most ts ts' t w e w') (hf:Tr.Fits most ts ts'):e=zLK (idT ts' t:Int) 0∧StoreIs w' Far sb most ts'∧Keeps Far w w':=by
 rcases h.way with ⟨_,h2,h3⟩ | ⟨h1,_⟩
 · exact ⟨h2,h3,h.keeps⟩
 · exact absurd hf h1
theorem Done.fit {Far:Nat→Prop} {sb:Nat} {most:Int} {ts ts':List Tr} {t:Tr} {w w':World} {e:Ending} (h:Done Far sb most ts ts' t w e w') (hf:Tr.Fits most ts ts'):e=zLK (idT ts' t:Int) 0∧StoreIs w' Far sb most ts'∧Keeps Far w w':=by
 rcases h.way with ⟨_,h2,h3⟩ | ⟨h1,_⟩
 · exact ⟨h2,h3,h.keeps⟩
 · exact absurd hf h1
theorem zC {w w1 w2:World} {Far:Nat→Prop} (hb:Below w.heap.size w w1) (hk:Keeps Far w1 w2) (hf : ∀ k,k<w.heap.size→Far k):Below w.heap.size w w2 :=
 ⟨hk.os.trans hb.os,hk.tape.trans hb.tape,hk.output.trans hb.output,Nat.le_trans hb.size hk.size,fun k h=>(hk.block k (hf k h) (Nat.lt_of_lt_of_le h hb.size)).trans (hb.block k h)⟩
theorem zKk (px py pz a b c d e f:Int) (w:World) :
 Calls Tryz.prog 26 #[.agg #[px,py,pz],.agg #[a,b,c,d,e,f]] w fun e' w'=>e' = .returned (.bool (inB ⟨px,py,pz⟩ ⟨⟨a,b,c⟩,⟨d,e,f⟩⟩))∧Below w.heap.size w w':=by
 go_enter Tryz.func26,Tryz.ntmps26;go_wp2_with fail
 all_goals
  go_ret;exact ⟨zr (by rw [Bool.eq_iff_iff];simp [inB];omega),((Below.refl _ _).alloc (Nat.le_refl _) _).alloc (by simp) _⟩
theorem zKg (a b c d e f:Int) (w:World) :
 Calls Tryz.prog 91 #[.agg #[a,b,c,d,e,f]] w fun e' w'=>e' = .returned (.bool (zN ⟨⟨a,b,c⟩,⟨d,e,f⟩⟩))∧Below w.heap.size w w':=by
 go_enter Tryz.func91,Tryz.ntmps91;go_wp2_with fail
 all_goals
  go_ret;exact ⟨zr (by rw [Bool.eq_iff_iff];simp [zN,inB];omega),(Below.refl _ _).alloc (Nat.le_refl _) _⟩
theorem zK3 (px py pz qx qy qz:Int) (h1 : -4000000000≤px∧px≤4000000000) (h2 : -4000000000≤py∧py≤4000000000) (h3 : -4000000000≤pz∧pz≤4000000000) (h4 : -4000000000≤qx∧qx≤4000000000) (h5 : -4000000000≤qy∧qy≤4000000000) (h6 : -4000000000≤qz∧qz≤4000000000) (w:World) :
 Calls Tryz.prog 114 #[.agg #[px,py,pz],.agg #[qx,qy,qz]] w fun e' w'=>e' = .returned (.agg #[.int .i64 (px - qx),.int .i64 (py - qy),.int .i64 (pz - qz)])∧Below w.heap.size w w':=by
 obtain ⟨a1,a2⟩:=h1;obtain ⟨a3,a4⟩:=h2;obtain ⟨a5,a6⟩:=h3;obtain ⟨b1,b2⟩:=h4;obtain ⟨b3,b4⟩:=h5;obtain ⟨b5,b6⟩:=h6;go_enter Tryz.func114,Tryz.ntmps114;go_wp2_with fail;generalize hW:World.alloc (World.alloc (World.alloc w _) _) _=W;have hB:=bl3 hW;have kr:Bk W (w.heap.size+1+1) #[.int .i64 (px - qx),.int .i64 (py - qy),.int .i64 (pz - qz)] 23:=bk0 hW;clear hW;exact bodyPost_ret (v:=.agg #[.int .i64 (px - qx),.int .i64 (py - qy),.int .i64 (pz - qz)]) (results_cell_row rfl _ _ _ 23 #[.int .i64 (px - qx),.int .i64 (py - qy),.int .i64 (pz - qz)] (0,0) _ rfl kr Tryz.underlying23 rfl (by kernel_rfl)) rfl ⟨rfl,hB⟩
theorem zKZ (px py pz qx qy qz:Int) (h1 : -4000000000≤px∧px≤4000000000) (h2 : -4000000000≤py∧py≤4000000000) (h3 : -4000000000≤pz∧pz≤4000000000) (h4 : -4000000000≤qx∧qx≤4000000000) (h5 : -4000000000≤qy∧qy≤4000000000) (h6 : -4000000000≤qz∧qz≤4000000000) (w:World) :
 Calls Tryz.prog 29 #[.agg #[px,py,pz],.agg #[qx,qy,qz]] w fun e' w'=>e' = .returned (.agg #[.int .i64 (px+qx),.int .i64 (py+qy),.int .i64 (pz+qz)])∧Below w.heap.size w w':=by
 obtain ⟨a1,a2⟩:=h1;obtain ⟨a3,a4⟩:=h2;obtain ⟨a5,a6⟩:=h3;obtain ⟨b1,b2⟩:=h4;obtain ⟨b3,b4⟩:=h5;obtain ⟨b5,b6⟩:=h6;go_enter Tryz.func29,Tryz.ntmps29;go_wp2_with fail;generalize hW:World.alloc (World.alloc (World.alloc w _) _) _=W;have hB:=bl3 hW;have kr:Bk W (w.heap.size+1+1) #[.int .i64 (px+qx),.int .i64 (py+qy),.int .i64 (pz+qz)] 23:=bk0 hW;clear hW;exact bodyPost_ret (v:=.agg #[.int .i64 (px+qx),.int .i64 (py+qy),.int .i64 (pz+qz)]) (results_cell_row rfl _ _ _ 23 #[.int .i64 (px+qx),.int .i64 (py+qy),.int .i64 (pz+qz)] (0,0) _ rfl kr Tryz.underlying23 rfl (by kernel_rfl)) rfl ⟨rfl,hB⟩
theorem zKz (a b c d e f:Int) (hS:Small ⟨⟨a,b,c⟩,⟨d,e,f⟩⟩ 1048575) (he:zN ⟨⟨a,b,c⟩,⟨d,e,f⟩⟩=false) (w:World) :
 Calls Tryz.prog 113 #[.agg #[a,b,c,d,e,f]] w fun e' w'=>e' = .returned (.agg #[.int .i64 (d - a),.int .i64 (e - b),.int .i64 (f - c)])∧Below w.heap.size w w':=by
 obtain ⟨s1,s2,s3,s4,s5,s6⟩:=hS;simp only [] at s1 s2 s3 s4 s5 s6;have hem:=Bx.mk (fun W=>zKg a b c d e f W);have he2:=zO.1 he;simp only [] at he2;have hsub:=Bx.mk (fun W=>zK3 d e f a b c (by omega) (by omega) (by omega) (by omega) (by omega) (by omega) W)
 rw [he] at hem;clear s1 s2 s3 s4 s5 s6 he he2;go_enter Tryz.func113,Tryz.ntmps113;go_wp2_with fail;generalize hW:World.alloc (World.alloc w _) _=W;have hSz:=sz2 hW;have hB:=bl2 hW;have kb:Bk W (w.heap.size) #[a,b,c,d,e,f] 25:=bk1 hW;have kr:Bk W (w.heap.size+1) #[(0:Int),(0:Int),(0:Int)] 23:=bk0 hW;clear hW;refine (hem.out _).mono ?_;rintro e1 w1 ⟨rfl,hb⟩;replace hB:=hB.trans (hb.mono hB.size);replace kb:=kb.later hb;replace kr:=kr.later hb;replace hSz:=Nat.le_trans hSz hb.size;clear hb;obtain ⟨cb0,cb1,cb2,cb3,cb4,cb5⟩:=kb.c6;go_wp2_with fail;refine (hsub.out _).mono ?_;rintro e2 w2 ⟨rfl,hb⟩;clear cb0 cb1 cb2 cb3 cb4 cb5;replace hB:=hB.trans (hb.mono hB.size);replace kb:=kb.later hb;replace kr:=kr.later hb;replace hSz:=Nat.le_trans hSz hb.size;clear hb;obtain ⟨cr0,cr1,cr2⟩:=kr.c3;obtain ⟨fr0,fr1,fr2⟩:=kr.f3;go_wp2_with fail;replace kr:=kr.put3 (.int .i64 (d - a)) (.int .i64 (e - b)) (.int .i64 (f - c));exact bodyPost_ret (v:=.agg #[.int .i64 (d - a),.int .i64 (e - b),.int .i64 (f - c)]) (results_cell_row rfl _ _ _ 23 #[.int .i64 (d - a),.int .i64 (e - b),.int .i64 (f - c)] (0,0) _ rfl kr Tryz.underlying23 rfl (by kernel_rfl)) rfl ⟨rfl,zBh hB (by omega) _ _ _⟩
theorem zK0 (a b c d e f:Int) (he:zN ⟨⟨a,b,c⟩,⟨d,e,f⟩⟩=true) (w:World) :
 Calls Tryz.prog 113 #[.agg #[a,b,c,d,e,f]] w fun e' w'=>e' = .returned (.agg #[(0:Int),(0:Int),(0:Int)])∧Below w.heap.size w w':=by
 have hem:=Bx.mk (fun W=>zKg a b c d e f W);rw [he] at hem;clear he;go_enter Tryz.func113,Tryz.ntmps113;go_wp2_with fail;generalize hW:World.alloc (World.alloc w _) _=W;have hSz:=sz2 hW;have hB:=bl2 hW;have kb:Bk W (w.heap.size) #[a,b,c,d,e,f] 25:=bk1 hW;have kr:Bk W (w.heap.size+1) #[(0:Int),(0:Int),(0:Int)] 23:=bk0 hW;clear hW;refine (hem.out _).mono ?_;rintro e1 w1 ⟨rfl,hb⟩;replace hB:=hB.trans (hb.mono hB.size);replace kb:=kb.later hb;replace kr:=kr.later hb;replace hSz:=Nat.le_trans hSz hb.size;clear hb;obtain ⟨cr0,cr1,cr2⟩:=kr.c3;obtain ⟨fr0,fr1,fr2⟩:=kr.f3;go_wp2_with fail;replace kr:=kr.put3 (.int .i64 0) (.int .i64 0) (.int .i64 0);exact bodyPost_ret (v:=.agg #[(0:Int),(0:Int),(0:Int)]) (results_cell_row rfl _ _ _ 23 #[(0:Int),(0:Int),(0:Int)] (0,0) _ rfl kr Tryz.underlying23 rfl (by kernel_rfl)) rfl ⟨rfl,zBh hB (by omega) _ _ _⟩
end
end Go.Proofs.YtgnfgblkpnfcnaaGreatDoor
