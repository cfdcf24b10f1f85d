/- Ply, Few1, Blw, Few2, Few3: joined by program, for one claim. -/
import Derived.Test.YtfcbajmjaifjlaaGreatM39
import Derived.Test.YtfcbajmjaifjlaaGreatM37
import Derived.Test.YtfcbajmjaifjlaaGreatM4
import Derived.Test.YtfcbajmjaifjlaaGreatM18
import Derived.Test.YtfcbajmjaifjlaaGreatM16
import Derived.Test.YtfcbajmjaifjlaaGreatM27
import Derived.Test.YtfcbajmjaifjlaaGreatM2
import Derived.Lib.EndianBits
import Derived.Laws.Tables
import Derived.Deep.MidRow
import Derived.Deep.WholeRow
set_option linter.unusedVariables false
set_option linter.unusedSimpArgs false
namespace Go.Proofs.YtfcbajmjaifjlaaGreat
section
open Go.RowKit Go.Sort Go.Maps
open Oct
set_option maxRecDepth 100000 in
set_option maxHeartbeats 1000000 in
theorem play_1 (sb:Nat) (id dd:Int) (kd b0 b1 b2 b3 b4 b5 cell g0 g1 g2 g3 g4 g5:Int) (ga:Option Addr) (gn gc:Nat) (la:Option Addr) (ln lc:Nat) (c0 c1 c2 cl d0 d1 d2 dl:Int) (hk:kd=1) (w:World) (R:Ending→World→Prop) (hR : ∀ e W',R e W' → ∃ a b:Int,e=ret2 a b)
 (hF : ∀ W,Below w.heap.size w W→Calls Tryz.prog 49 #[.pointer (some ⟨sb,0,none⟩),id,dd,.agg #[b0,b1,b2,b3,b4,b5],cell] W R) :
 Calls Tryz.prog 13 #[.pointer (some ⟨sb,0,none⟩),id,dd,.agg #[kd,b0,b1,b2,b3,b4,b5,cell,g0,g1,g2,g3,g4,g5,.slice ga gn gc,.slice la ln lc,c0,c1,c2,cl,d0,d1,d2,dl]] w R:=by
 have t1:(kd == 1)=true:=by simp [hk]
 have t2:(kd == 2)=false:=by simp [hk]
 have t3:(kd == 3)=false:=by simp [hk]
 have HF:=Bx.mk hF
 have HR:=Bx.mk hR
 clear hF hR hk
 go_enter Tryz.func13,Tryz.ntmps13
 go_upto_region 1 with fail
 generalize hW:World.alloc w _=W
 have hB:=bl1 hW
 have kg:Bk W w.heap.size #[kd,b0,b1,b2,b3,b4,b5,cell,g0,g1,g2,g3,g4,g5,.slice ga gn gc,.slice la ln lc,c0,c1,c2,cl,d0,d1,d2,dl] 41:=bk0 hW
 clear hW
 obtain ⟨q0,q1,q2,q3,q4,q5,q6,q7,q8,q9,q10,q11⟩:=kg.c12
 have q12:=kg.cell 12 rfl
 have q13:=kg.cell 13 rfl
 have q14:=kg.cell 14 rfl
 have q15:=kg.cell 15 rfl
 have q16:=kg.cell 16 rfl
 have q17:=kg.cell 17 rfl
 have q18:=kg.cell 18 rfl
 have q19:=kg.cell 19 rfl
 have q20:=kg.cell 20 rfl
 have q21:=kg.cell 21 rfl
 have q22:=kg.cell 22 rfl
 have q23:=kg.cell 23 rfl
 have HQ:=Bx.mk (HF.out W hB)
 clear kg HF hB
 go_wp2_with fail
 refine HQ.out.mono ?_
 intro e W' hr
 obtain ⟨x,y,rfl⟩:=HR.out e W' hr
 have HRR:=Bx.mk hr
 clear hr HQ HR
 clear q0 q1 q2 q3 q4 q5 q6 q7 q8 q9 q10 q11 q12 q13 q14 q15 q16 q17 q18 q19 q20 q21 q22 q23
 go_wp2_with fail
 exact HRR.out
set_option maxRecDepth 100000 in
set_option maxHeartbeats 1000000 in
theorem play_2 (sb:Nat) (id dd:Int) (kd b0 b1 b2 b3 b4 b5 cell g0 g1 g2 g3 g4 g5:Int) (ga:Option Addr) (gn gc:Nat) (la:Option Addr) (ln lc:Nat) (c0 c1 c2 cl d0 d1 d2 dl:Int) (hk:kd=2) (w:World) (R:Ending→World→Prop) (hR : ∀ e W',R e W' → ∃ a b:Int,e=ret2 a b)
 (hF : ∀ W,Below w.heap.size w W→Calls Tryz.prog 55 #[.pointer (some ⟨sb,0,none⟩),id,dd,.agg #[g0,g1,g2,g3,g4,g5,.slice ga gn gc]] W R) :
 Calls Tryz.prog 13 #[.pointer (some ⟨sb,0,none⟩),id,dd,.agg #[kd,b0,b1,b2,b3,b4,b5,cell,g0,g1,g2,g3,g4,g5,.slice ga gn gc,.slice la ln lc,c0,c1,c2,cl,d0,d1,d2,dl]] w R:=by
 have t1:(kd == 1)=false:=by simp [hk]
 have t2:(kd == 2)=true:=by simp [hk]
 have t3:(kd == 3)=false:=by simp [hk]
 have HF:=Bx.mk hF
 have HR:=Bx.mk hR
 clear hF hR hk
 go_enter Tryz.func13,Tryz.ntmps13
 go_upto_region 1 with fail
 generalize hW:World.alloc w _=W
 have hB:=bl1 hW
 have kg:Bk W w.heap.size #[kd,b0,b1,b2,b3,b4,b5,cell,g0,g1,g2,g3,g4,g5,.slice ga gn gc,.slice la ln lc,c0,c1,c2,cl,d0,d1,d2,dl] 41:=bk0 hW
 clear hW
 obtain ⟨q0,q1,q2,q3,q4,q5,q6,q7,q8,q9,q10,q11⟩:=kg.c12
 have q12:=kg.cell 12 rfl
 have q13:=kg.cell 13 rfl
 have q14:=kg.cell 14 rfl
 have q15:=kg.cell 15 rfl
 have q16:=kg.cell 16 rfl
 have q17:=kg.cell 17 rfl
 have q18:=kg.cell 18 rfl
 have q19:=kg.cell 19 rfl
 have q20:=kg.cell 20 rfl
 have q21:=kg.cell 21 rfl
 have q22:=kg.cell 22 rfl
 have q23:=kg.cell 23 rfl
 have HQ:=Bx.mk (HF.out W hB)
 clear kg HF hB
 go_wp2_with fail
 refine HQ.out.mono ?_
 intro e W' hr
 obtain ⟨x,y,rfl⟩:=HR.out e W' hr
 have HRR:=Bx.mk hr
 clear hr HQ HR
 clear q0 q1 q2 q3 q4 q5 q6 q7 q8 q9 q10 q11 q12 q13 q14 q15 q16 q17 q18 q19 q20 q21 q22 q23
 go_wp2_with fail
 exact HRR.out
set_option maxRecDepth 100000 in
set_option maxHeartbeats 1000000 in
theorem play_3 (sb:Nat) (id dd:Int) (kd b0 b1 b2 b3 b4 b5 cell g0 g1 g2 g3 g4 g5:Int) (ga:Option Addr) (gn gc:Nat) (la:Option Addr) (ln lc:Nat) (c0 c1 c2 cl d0 d1 d2 dl:Int) (hk:kd=3) (w:World) (R:Ending→World→Prop) (hR : ∀ e W',R e W' → ∃ a b:Int,e=ret2 a b)
 (hF : ∀ W,Below w.heap.size w W→Calls Tryz.prog 52 #[.pointer (some ⟨sb,0,none⟩),id,dd,.slice la ln lc] W R) :
 Calls Tryz.prog 13 #[.pointer (some ⟨sb,0,none⟩),id,dd,.agg #[kd,b0,b1,b2,b3,b4,b5,cell,g0,g1,g2,g3,g4,g5,.slice ga gn gc,.slice la ln lc,c0,c1,c2,cl,d0,d1,d2,dl]] w R:=by
 have t1:(kd == 1)=false:=by simp [hk]
 have t2:(kd == 2)=false:=by simp [hk]
 have t3:(kd == 3)=true:=by simp [hk]
 have HF:=Bx.mk hF
 have HR:=Bx.mk hR
 clear hF hR hk
 go_enter Tryz.func13,Tryz.ntmps13
 go_upto_region 1 with fail
 generalize hW:World.alloc w _=W
 have hB:=bl1 hW
 have kg:Bk W w.heap.size #[kd,b0,b1,b2,b3,b4,b5,cell,g0,g1,g2,g3,g4,g5,.slice ga gn gc,.slice la ln lc,c0,c1,c2,cl,d0,d1,d2,dl] 41:=bk0 hW
 clear hW
 obtain ⟨q0,q1,q2,q3,q4,q5,q6,q7,q8,q9,q10,q11⟩:=kg.c12
 have q12:=kg.cell 12 rfl
 have q13:=kg.cell 13 rfl
 have q14:=kg.cell 14 rfl
 have q15:=kg.cell 15 rfl
 have q16:=kg.cell 16 rfl
 have q17:=kg.cell 17 rfl
 have q18:=kg.cell 18 rfl
 have q19:=kg.cell 19 rfl
 have q20:=kg.cell 20 rfl
 have q21:=kg.cell 21 rfl
 have q22:=kg.cell 22 rfl
 have q23:=kg.cell 23 rfl
 have HQ:=Bx.mk (HF.out W hB)
 clear kg HF hB
 go_wp2_with fail
 refine HQ.out.mono ?_
 intro e W' hr
 obtain ⟨x,y,rfl⟩:=HR.out e W' hr
 have HRR:=Bx.mk hr
 clear hr HQ HR
 clear q0 q1 q2 q3 q4 q5 q6 q7 q8 q9 q10 q11 q12 q13 q14 q15 q16 q17 q18 q19 q20 q21 q22 q23
 go_wp2_with fail
 exact HRR.out
set_option maxRecDepth 100000 in
set_option maxHeartbeats 1000000 in
theorem play_4 (sb:Nat) (id dd:Int) (kd b0 b1 b2 b3 b4 b5 cell g0 g1 g2 g3 g4 g5:Int) (ga:Option Addr) (gn gc:Nat) (la:Option Addr) (ln lc:Nat) (c0 c1 c2 cl d0 d1 d2 dl:Int) (hk:kd ≠ 1∧kd ≠ 2∧kd ≠ 3) (w:World) (R:Ending→World→Prop) (hR : ∀ e W',R e W' → ∃ a b:Int,e=ret2 a b)
 (hF : ∀ W,Below w.heap.size w W→Calls Tryz.prog 38 #[.pointer (some ⟨sb,0,none⟩),id,dd,.agg #[c0,c1,c2],cl] W fun e W'=>Below W.heap.size W W'∧((e=ret2 0 1∧R e W') ∨ ∃ p,e=ret2 p 0∧Calls Tryz.prog 53 #[.pointer (some ⟨sb,0,none⟩),id,dd,.agg #[d0,d1,d2,dl],p] W' R)) :
 Calls Tryz.prog 13 #[.pointer (some ⟨sb,0,none⟩),id,dd,.agg #[kd,b0,b1,b2,b3,b4,b5,cell,g0,g1,g2,g3,g4,g5,.slice ga gn gc,.slice la ln lc,c0,c1,c2,cl,d0,d1,d2,dl]] w R:=by
 have t1:(kd == 1)=false:=by simp;omega
 have t2:(kd == 2)=false:=by simp;omega
 have t3:(kd == 3)=false:=by simp;omega
 have HF:=Bx.mk hF
 have HR:=Bx.mk hR
 clear hF hR hk
 go_enter Tryz.func13,Tryz.ntmps13
 go_upto_region 1 with fail
 generalize hW:World.alloc w _=W
 have hB:=bl1 hW
 have kg:Bk W w.heap.size #[kd,b0,b1,b2,b3,b4,b5,cell,g0,g1,g2,g3,g4,g5,.slice ga gn gc,.slice la ln lc,c0,c1,c2,cl,d0,d1,d2,dl] 41:=bk0 hW
 clear hW
 obtain ⟨q0,q1,q2,q3,q4,q5,q6,q7,q8,q9,q10,q11⟩:=kg.c12
 have q12:=kg.cell 12 rfl
 have q13:=kg.cell 13 rfl
 have q14:=kg.cell 14 rfl
 have q15:=kg.cell 15 rfl
 have q16:=kg.cell 16 rfl
 have q17:=kg.cell 17 rfl
 have q18:=kg.cell 18 rfl
 have q19:=kg.cell 19 rfl
 have q20:=kg.cell 20 rfl
 have q21:=kg.cell 21 rfl
 have q22:=kg.cell 22 rfl
 have q23:=kg.cell 23 rfl
 have HQ:=Bx.mk (HF.out W hB)
 have KG:=Bx.mk kg
 clear kg HF hB
 go_wp2_with fail
 refine HQ.out.mono ?_
 rintro e W1 ⟨hb1,⟨rfl,hr⟩ | ⟨p,rfl,hg⟩⟩
 · have HRR:=Bx.mk hr
   clear hr HQ HR hb1 KG
   clear q0 q1 q2 q3 q4 q5 q6 q7 q8 q9 q10 q11 q12 q13 q14 q15 q16 q17 q18 q19 q20 q21 q22 q23
   go_wp2_with fail
   exact HRR.out
 · have HG:=Bx.mk hg
   have kg:=KG.out.later hb1
   clear hg HQ hb1 KG
   clear q0 q1 q2 q3 q4 q5 q6 q7 q8 q9 q10 q11 q12 q13 q14 q15 q16 q17 q18 q19 q20 q21 q22 q23
   have q20:=kg.cell 20 rfl
   have q21:=kg.cell 21 rfl
   have q22:=kg.cell 22 rfl
   have q23:=kg.cell 23 rfl
   clear kg
   go_wp2_with fail
   refine HG.out.mono ?_
   intro e W' hr
   obtain ⟨x,y,rfl⟩:=HR.out e W' hr
   have HRR:=Bx.mk hr
   clear hr HG HR q20 q21 q22 q23
   go_wp2_with fail
   exact HRR.out
end
section
open Go.RowKit Go.Sort Go.Maps
open Oct
theorem cube4_any (M:Int) (w:World):Calls Tryz.prog 29 #[M] w fun e w'=>e = .returned (.agg #[(0:Int),(0:Int),(0:Int),M,M,M])∧Below w.heap.size w w':=by
 go_enter Tryz.func29,Tryz.ntmps29
 go_wp2_with fail
 exact bodyPost_ret (v:=.agg #[(0:Int),(0:Int),(0:Int),M,M,M]) (by simp [results,Tryz.results29,go_sem]) rfl ⟨rfl,(Below.refl _ _).alloc (Nat.le_refl _) _⟩
def wideP (n:Nat) (b:Box):Bool:=volB (meetB b (cubeB (2 ^ (n+2)))) == volB (cubeB (2 ^ (n+2)))
set_option maxRecDepth 100000 in
set_option maxHeartbeats 1000000 in
theorem wide_any (n:Nat) (hn:n≤12) (b0 b1 b2 b3 b4 b5:Int) (w:World) :
 Calls Tryz.prog 46 #[.agg #[b0,b1,b2,b3,b4,b5],.int .i64 ((n:Int)+2)] w fun e w'=>e = .returned (.bool (wideP n ⟨⟨b0,b1,b2⟩,⟨b3,b4,b5⟩⟩))∧Below w.heap.size w w':=by
 have hp:=pow_le (show n+2≤14 by omega)
 have hpw:=pow_wrap (show n+2≤14 by omega)
 have hsh0:Op.shift .shl .i64 1 .i64 ((n:Int)+2)=pure (.int .i64 ((2:Int) ^ (n+2))):=by
  have h:=shift_shl .i64 .i64 1 ((n:Int)+2) (by omega) (by show (n:Int)+2≤64;omega)
  rw [show ((n:Int)+2).toNat=n+2 by omega,Int.one_mul,hpw] at h
  exact h
 have hct:=Bx.mk fun W=>ref_contains b0 b1 b2 b3 b4 b5 0 0 0 (2 ^ (n+2)) (2 ^ (n+2)) (2 ^ (n+2)) ⟨by simp only [];omega,by simp only [];omega,by simp only [];omega,by simp only [];omega,by simp only [];omega,by simp only [];omega⟩ W
 have hwd:wideP n ⟨⟨b0,b1,b2⟩,⟨b3,b4,b5⟩⟩=(volB (meetB ⟨⟨b0,b1,b2⟩,⟨b3,b4,b5⟩⟩ ⟨⟨0,0,0⟩,⟨2 ^ (n+2),2 ^ (n+2),2 ^ (n+2)⟩⟩) == volB ⟨⟨0,0,0⟩,⟨2 ^ (n+2),2 ^ (n+2),2 ^ (n+2)⟩⟩):=rfl
 rw [←hwd] at hct
 generalize wideP n ⟨⟨b0,b1,b2⟩,⟨b3,b4,b5⟩⟩=r at *
 have hcu:=Bx.mk fun W=>cube4_any (2 ^ (n+2)) W
 generalize (2:Int) ^ (n+2)=M at *
 have HSH:=Bx.mk hsh0
 clear hp hpw hwd hsh0 hn
 go_enter Tryz.func46,Tryz.ntmps46
 go_upto_region 1 with fail
 generalize hW:World.alloc w _=W
 have hB:=bl1 hW
 have KB:=Bx.mk (show Bk W w.heap.size #[b0,b1,b2,b3,b4,b5] 25 by rw [←hW];exact blk_new _ _ _ (by simp))
 clear hW
 refine wp_region_relT 4 (fun i v w'=>match i with
  | 0=>v = .agg #[b0,b1,b2,b3,b4,b5]
  | 1=>v = .int .i64 ((n:Int)+2)
  | 2=>v = .int .i64 M
  | _=>v = .agg #[(0:Int),(0:Int),(0:Int),M,M,M]) (by kernel_rfl) (by kernel_rfl) 10 (by kernel_rfl) (by rfl) ?_ ?_ ?_
 · intro i hi v u1 u2 hb h
   match i,hi with
   | 0,_=>exact h
   | 1,_=>exact h
   | 2,_=>exact h
   | 3,_=>exact h
 · intro i o hi ho ρ w1 hb hc1 hc2 hc3 hk
   match i,hi with
   | 0, _ =>
     obtain rfl:=Option.some.inj ho
     have g0:ρ (.tmp 2) = .pointer (some ⟨w.heap.size,0,none⟩):=hk 2 (by simp [Op.operands,Call.operands])
     have k1:=KB.out.later hb
     obtain ⟨z0,z1,z2,z3,z4,z5⟩:=k1.c6
     clear hk hb hcu HSH KB hct hB
     go_simp
     exact Below.refl _ _
   | 1, _ =>
     obtain rfl:=Option.some.inj ho
     have g0:ρ (.tmp 1) = .int .i64 ((n:Int)+2):=hk 1 (by simp [Op.operands,Call.operands])
     clear hk hb hcu HSH KB hct hB
     go_simp
     exact Below.refl _ _
   | 2, _ =>
     obtain rfl:=Option.some.inj ho
     have g0:ρ (.tmp 6) = .int .i64 ((n:Int)+2):=hk 6 (by simp [Op.operands,Call.operands])
     have e1:=HSH.out
     clear hk hb hcu HSH KB hct hB
     go_simp
     exact Below.refl _ _
   | 3, _ =>
     obtain rfl:=Option.some.inj ho
     have g0:ρ (.tmp 7) = .int .i64 M:=hk 7 (by simp [Op.operands,Call.operands])
     have h4:=hcu.out w1
     have H4:=Bx.mk h4
     clear h4
     clear hk hb hcu HSH KB hct hB
     go_simp
     all_goals exact H4.out
 · intro vs W1 hlen hb hR
   match vs,hlen with
   | [v0, v1, v2, v3], _ =>
     have r0:v0 = .agg #[b0,b1,b2,b3,b4,b5]:=hR 0 v0 rfl
     have r1:v1 = .int .i64 ((n:Int)+2):=hR 1 v1 rfl
     have r2:v2 = .int .i64 M:=hR 2 v2 rfl
     have r3:v3 = .agg #[(0:Int),(0:Int),(0:Int),M,M,M]:=hR 3 v3 rfl
     clear hR
     subst r0 r1 r2 r3
     have HQ:=Bx.mk (hct.out W1)
     have HB:=Bx.mk (hB.trans (hb.mono hB.size))
     clear hb hB KB hct hcu HSH
     simp only [puts,List.take_succ_cons,List.take_zero,List.drop_succ_cons,List.drop_zero,List.map_cons,List.map_nil,List.zip_cons_cons,List.zip_nil_right,List.foldl_cons,List.foldl_nil]
     go_wp2_with fail
     refine HQ.out.mono ?_
     rintro _ w5 ⟨rfl,hb5⟩
     have HB5:=Bx.mk (HB.out.trans (hb5.mono HB.out.size))
     clear hb5 HB HQ
     go_wp2_with fail
     go_ret
     exact ⟨rfl,HB5.out⟩
end
section
open Go.RowKit
def Bl (w:World) (b:Nat) (k:IntKind) (xs:List Int) (t:TypeId):Prop:=Bk w b (xs.map (Value.int k)).toArray t
section
variable {w w':World} {b:Nat} {k:IntKind} {xs:List Int} {t:TypeId}
theorem Bl.lt (h:Bl w b k xs t):b<w.heap.size:=Bk.lt h
theorem Bl.cell (h:Bl w b k xs t) {i:Nat} {x:Int} (hx:xs[i]? = some x):w.cell? ⟨b,i,none⟩=some (.int k x):=by
 refine Bk.cell h i ?_
 rw [List.getElem?_toArray,List.getElem?_map,hx];rfl
theorem Bl.frozen (h:Bl w b k xs t) (i:Nat):w.frozen? ⟨b,i,none⟩=false:=Bk.frozen h i
theorem Bl.later (h:Bl w b k xs t) (hb:Below w.heap.size w w'):Bl w' b k xs t:=Bk.later h hb
theorem Bl.alloc (h:Bl w b k xs t) (o:Obj):Bl (w.alloc o) b k xs t:=Bk.alloc h o
theorem Bl.put (h:Bl w b k xs t) (i:Nat) (v:Int):Bl (w.setCell ⟨b,i,none⟩ (.int k v)) b k (xs.set i v) t:=by
 have:=Bk.set h i (.int k v)
 unfold Bl
 rw [List.map_set]
 rwa [List.setIfInBounds_toArray] at this
theorem Bl.other (h:Bl w b k xs t) (a:Addr) (v:Value) (hne:b ≠ a.block):Bl (w.setCell a v) b k xs t:=Bk.other h a v hne
theorem Bl.whole (h:Bl w b k xs t) (ys:List Int):Bl (w.setRow b (ys.map (Value.int k)).toArray) b k ys t:=setRow_heap w b _ _ t (0,0) h
theorem Bl.apart (h:Bl w b k xs t) {g:Nat} (cs:Array Value) (hne:b ≠ g):Bl (w.setRow g cs) b k xs t:=by
 unfold Bl Bk at *
 rw [setRow_other w g b cs hne];exact h
end
theorem wpList_load_whole {P:Program} {ops:Array Oper} {rest:List Oper} {op:Oper} {a:Act} {w:World} {Q:Exit→Act→World→Prop} (hgd:op.guard=none) (ty:TypeId) (x:Operand) (ho:op.op = .load ty x)
 (g:Nat) (hx:a.eval x = .pointer (some ⟨g,0,none⟩)) (cs:Array Value) (t:TypeId) (hg:w.heap[g]? = some (.cells cs t (0,0))) (d:TypeDesc)
 (hu:P.underlying ty=some d) (hd:(match d with | .struct _ | .array _ _=>true | _=>false)=true) (hi:(P.info? ty).map (·.size)=some cs.size)
 (h:wpList P ops Q rest (a.put op.dst (.agg cs)) w):wpList P ops Q (op::rest) a w:=by
 refine wpList_plain hgd fun K hK=>?_
 unfold Oper.wp execOp
 simp only [ho,hx,Instr.loadAt,Instr.sureAddr,Sem.run_bind,Sem.run_pure,Result.andThen_ok,run_loadVar_row w g t ty cs (0,0) d hg hu hd hi]
 exact hK _ _ h
theorem wpList_store_whole {P:Program} {ops:Array Oper} {rest:List Oper} {op:Oper} {a:Act} {w:World} {Q:Exit→Act→World→Prop} (hgd:op.guard=none) (ty:TypeId) (x y:Operand) (ho:op.op = .store ty x y)
 (g:Nat) (hx:a.eval x = .pointer (some ⟨g,0,none⟩)) (cs cs':Array Value) (hy:a.eval y = .agg cs') (t:TypeId) (hg:w.heap[g]? = some (.cells cs t (0,0)))
 (hi:(P.info? ty).map (·.size)=some cs'.size) (hs:cs.size=cs'.size) (h1:cs'.all (·.oneCell')=true)
 (h:wpList P ops Q rest (a.put op.dst undef) (w.setRow g cs')):wpList P ops Q (op::rest) a w:=by
 refine wpList_plain hgd fun K hK=>?_
 unfold Oper.wp execOp
 have hr:=run_storeVar_row (P:=P) w g t ty cs cs' hg hi hs h1
 simp only [ho,hx,hy,Instr.storeAt,Instr.sureAddr,Sem.run_bind,Sem.run_pure,Result.andThen_ok,hr]
 exact hK _ _ h
end
section
open Go.RowKit Go.Sort Go.Maps
open Oct
structure Stp where
 kd:Int
 b:Box
 cell:Int
 g:Box
 ga:Option Addr
 ys:List Int
 gc:Nat
 la:Option Addr
 cs:List Chg
 lc:Nat
 c:Pt
 cl:Int
 d:Pt
 dl:Int
abbrev Stp.arr (s:Stp):Array Value:=#[s.kd,s.b.lo.x,s.b.lo.y,s.b.lo.z,s.b.hi.x,s.b.hi.y,s.b.hi.z,s.cell,s.g.lo.x,s.g.lo.y,s.g.lo.z,s.g.hi.x,s.g.hi.y,s.g.hi.z,.slice s.ga s.ys.length s.gc,.slice s.la s.cs.length s.lc,s.c.x,s.c.y,s.c.z,s.cl,s.d.x,s.d.y,s.d.z,s.dl]
structure StpOk (w:World) (s:Stp):Prop where
 ys:Sl w .i64 s.ga s.ys
 yc:s.ys.length≤s.gc
 cs:SlC w s.la s.cs
 cc:s.cs.length≤s.lc
theorem StpOk.below {w w':World} {s:Stp} (h:StpOk w s) (hb:Below w.heap.size w w'):StpOk w' s:=⟨h.ys.below hb,h.yc,h.cs.below hb,h.cc⟩
def SlS (w:World) (a:Option Addr) (L:List Stp):Prop := ∀ (i:Nat) (s:Stp),L[i]? = some s → ∃ b off,a=some ⟨b,off,none⟩∧(∀ j v,s.arr[j]? = some v→w.cell? ⟨b,off+i * 24+j,none⟩=some v)∧StpOk w s
theorem SlS.below {w w':World} {a:Option Addr} {L:List Stp} (h:SlS w a L) (hb:Below w.heap.size w w'):SlS w' a L:=by
 intro i s hs
 obtain ⟨b,off,rfl,hc,ho⟩:=h i s hs
 exact ⟨b,off,rfl,fun j v hj=>cell_later hb (hc j v hj),ho.below hb⟩
def fewS (n:Nat) (s:Stp):Bool:=decide (s.ys.length≤300) && (decide (s.cs.length≤20) && (validG s.g s.ys && (okP s.b.lo && (okP s.b.hi && (decide (n≤3) || (decide (volB s.b≤4000) || wideP n s.b))))))
theorem all_take {n k:Nat} {L:List Stp} {s:Stp} (hs:L[k]? = some s) (h:(L.take k).all (fewS n)=true) (h':fewS n s=true):(L.take (k+1)).all (fewS n)=true:=by
 have hj:=List.getElem?_eq_some_iff.1 hs
 rw [List.take_succ_eq_append_getElem hj.1,hj.2,List.all_append,h]
 simp [h']
theorem all_bad {n k:Nat} {L:List Stp} {s:Stp} (hs:L[k]? = some s) (h':fewS n s=false):L.all (fewS n)=false:=by
 rw [List.all_eq_false]
 exact ⟨s,List.mem_of_getElem? hs,by simp [h']⟩
theorem small_ok {b:Box} (h1:okP b.lo=true) (h2:okP b.hi=true):Small b 1048575:=by
 rw [okP_iff] at h1 h2
 exact ⟨by omega,by omega,by omega,by omega,by omega,by omega⟩
theorem few_two {a b:Nat} {F:Prop} (h : ¬b≤a→F):(decide ((a:Int)<(b:Int))=true∧Bx F)∨(decide ((a:Int)<(b:Int))=false∧Bx (b≤a)):=by
 by_cases h1:b≤a
 · exact .inr ⟨by simp;omega,⟨h1⟩⟩
 · exact .inl ⟨by simp;omega,⟨h h1⟩⟩
theorem few_bool {b:Bool} {F:Prop} (h:b=false→F):(b=false∧Bx F)∨(b=true∧Bx (b=true)):=by
 cases b with
 | false=>exact .inl ⟨rfl,⟨h rfl⟩⟩
 | true=>exact .inr ⟨rfl,⟨rfl⟩⟩
theorem few_n {n:Nat} {F:Prop} (h:n≤3→F):(decide ((5:Int)<(n:Int)+2)=false∧Bx F)∨(decide ((5:Int)<(n:Int)+2)=true∧Bx (¬n≤3)):=by
 by_cases h1:n≤3
 · exact .inl ⟨by simp;omega,⟨h h1⟩⟩
 · exact .inr ⟨by simp;omega,⟨h1⟩⟩
theorem few_vol {v:Int} {F:Prop} (h:v≤4000→F):(decide ((4000:Int)<v)=false∧Bx F)∨(decide ((4000:Int)<v)=true∧Bx (¬v≤4000)):=by
 by_cases h1:v≤4000
 · exact .inl ⟨by simp;omega,⟨h h1⟩⟩
 · exact .inr ⟨by simp;omega,⟨h1⟩⟩
theorem few_wide {b:Bool} {F G:Prop} (h:b=true→F) (h':b=false→G):(b=true∧Bx F)∨(b=false∧Bx G):=by
 cases b with
 | true=>exact .inl ⟨rfl,⟨h rfl⟩⟩
 | false=>exact .inr ⟨rfl,⟨h' rfl⟩⟩
set_option maxRecDepth 100000 in
set_option maxHeartbeats 4000000 in
theorem few10_yes (a b c d e f:Int) (ha:Option Addr) (hcp:Nat) (xs:List Int) (hl:xs.length≤300) (n:Nat) (hn:n≤12) (hE:fromE ⟨⟨a,b,c⟩,⟨d,e,f⟩⟩ xs ((n:Int)+2)=0) (la:Option Addr) (lc:Nat) (L:List Stp) (hL:L.length≤8) (w:World) (hsl:Sl w .i64 ha xs) (hS:SlS w la L) :
 Calls Tryz.prog 9 #[.agg #[a,b,c,d,e,f,.slice ha xs.length hcp],.int .i64 ((n:Int)+2),.slice la L.length lc] w fun e' w'=>e' = .returned (.bool (L.all (fewS n)))∧Below w.heap.size w w':=by
 have hch:=Bx.mk fun W h=>ref9_check a b c d e f ha hcp xs hl ((n:Int)+2) W h
 rw [hE] at hch
 have hwide:=Bx.mk fun b0 b1 b2 b3 b4 b5 W=>wide_any n hn b0 b1 b2 b3 b4 b5 W
 have Hsl:=Bx.mk hsl
 have HS:=Bx.mk hS
 have t1:decide ((300:Int)<(xs.length:Int))=false:=by simp;omega
 have t2:decide ((8:Int)<(L.length:Int))=false:=by simp;omega
 generalize hm:L.length=m at *
 generalize xs.length=xl at *
 have HM:=Bx.mk hm
 clear hsl hS hE hm hl
 go_enter Tryz.func9,Tryz.ntmps9
 go_upto_region 1 with fail
 generalize hW:World.alloc w _=W
 have hB:=bl1 hW
 have kg:Bk W w.heap.size #[a,b,c,d,e,f,.slice ha xl hcp] 28:=bk0 hW
 clear hW
 obtain ⟨c0,c1,c2,c3,c4,c5,c6⟩:=kg.c7
 have HC:=Bx.mk (hch.out W (Hsl.out.below hB))
 have HB0:=Bx.mk hB
 clear kg hB hch
 go_wp2_with fail
 refine HC.out.mono ?_
 rintro _ w2 ⟨rfl,hb2⟩
 have HI:Bx (Below w.heap.size w w2∧(L.take 0).all (fewS n)=true):=⟨HB0.out.trans (hb2.mono HB0.out.size),rfl⟩
 clear hb2 HB0 HC c0 c1 c2 c3 c4 c5 c6 t1 t2
 go_wp2_with fail
 go_loopw [26] (fun v26 wr => ∃ k:Nat,k≤m∧v26 = .int .i64 k∧Bx (Below w.heap.size w wr∧(L.take k).all (fewS n)=true)) (fun i _=>m - (intOf i).toNat)
 case atStart=>exact ⟨0,Nat.zero_le _,rfl,HI⟩
 case round =>
  clear HI
  obtain ⟨k,hk,rfl,HI⟩:=hrel
  by_cases hlt:k<m
  · have t0:decide ((k:Int)<(m:Int))=true:=by simp;omega
    obtain ⟨s,hs⟩ : ∃ s,L[k]? = some s:=⟨_,List.getElem?_eq_getElem (by have:=HM.out;omega)⟩
    obtain ⟨bA,oA,rfl,hcell,hok⟩:=(HS.out.below HI.out.1) k s hs
    have z1:(0:Int)≤(k:Int):=by omega
    have z2:(k:Int)<(m:Int):=by omega
    obtain ⟨AL,hA⟩ : ∃ AL,AL=s.arr.toList:=⟨_,rfl⟩
    have hAs:AL.length=24:=by rw [hA];rfl
    have hA1:Bx (AL.toArray.all (·.oneCell')=true):=⟨by rw [hA];simp [Value.oneCell']⟩
    have hi24:Bx ((Tryz.prog.info? 41).map (·.size)=some AL.length):=⟨by rw [hAs];kernel_rfl⟩
    have hi25:Bx ((Tryz.prog.info? 41).map (·.size)=some AL.toArray.size):=⟨by rw [List.size_toArray,hAs];kernel_rfl⟩
    have HR:Bx (∀ W',Below wr.heap.size wr W'→W'.rangeAt bA (oA+k * 24) AL):=⟨fun W' hb j v hj=>cell_later hb (hcell j v (by rw [hA] at hj;simpa using hj))⟩
    have HA:=Bx.mk hA
    have HA24:=Bx.mk hAs
    clear hA hAs hcell
    have HOK:=Bx.mk hok
    have hstep:Bx (fewS n s=true→(L.take (k+1)).all (fewS n)=true):=⟨fun h=>all_take hs HI.out.2 h⟩
    have hbad:Bx (fewS n s=false→L.all (fewS n)=false):=⟨fun h=>all_bad hs h⟩
    clear hok hs
    go_upto_region 6 with (first
     | (refine wpList_load_mid rfl _ _ rfl bA (oA+k * 24) rfl AL _ (HR.out _ (Below.refl _ _)) Tryz.underlying41 rfl hi24.out ?_)
     | (refine wpList_store_whole rfl _ _ _ rfl wr.heap.size rfl _ AL.toArray rfl 41 (heap_alloc_new _ _) hi25.out (by rw [show AL.toArray.size=24 by simp [HA24.out]];rfl) hA1.out ?_))
    generalize hW:World.setRow (World.alloc wr _) _ _=W
    have hB:Below wr.heap.size wr W:=by rw [←hW];exact below_setRow ((Below.refl _ _).alloc (Nat.le_refl _) _) (Nat.le_refl _) _
    have KS:=Bx.mk (show Bk W wr.heap.size #[s.kd,s.b.lo.x,s.b.lo.y,s.b.lo.z,s.b.hi.x,s.b.hi.y,s.b.hi.z,s.cell,s.g.lo.x,s.g.lo.y,s.g.lo.z,s.g.hi.x,s.g.hi.y,s.g.hi.z,.slice s.ga s.ys.length s.gc,.slice s.la s.cs.length s.lc,s.c.x,s.c.y,s.c.z,s.cl,s.d.x,s.d.y,s.d.z,s.dl] 41 by rw [←hW,HA.out];exact setRow_heap _ _ _ _ _ (0,0) (heap_alloc_new _ _))
    have HB:=Bx.mk hB
    clear hW hA1 hi24 hi25 HR HA HA24
    have hlo0:=fun W' (_:Below wr.heap.size wr W')=>ref_ranged s.b.lo.x s.b.lo.y s.b.lo.z W'
    have hhi0:=fun W' (_:Below wr.heap.size wr W')=>ref_ranged s.b.hi.x s.b.hi.y s.b.hi.z W'
    have hwi0:=fun W' (_:Below wr.heap.size wr W')=>hwide.out s.b.lo.x s.b.lo.y s.b.lo.z s.b.hi.x s.b.hi.y s.b.hi.z W'
    rw [show (⟨s.b.lo.x,s.b.lo.y,s.b.lo.z⟩:Pt)=s.b.lo from rfl] at hlo0
    rw [show (⟨s.b.hi.x,s.b.hi.y,s.b.hi.z⟩:Pt)=s.b.hi from rfl] at hhi0
    rw [show (⟨⟨s.b.lo.x,s.b.lo.y,s.b.lo.z⟩,⟨s.b.hi.x,s.b.hi.y,s.b.hi.z⟩⟩:Box)=s.b from rfl] at hwi0
    have hlo:=Bx.mk hlo0
    have hhi:=Bx.mk hhi0
    have hwi:=Bx.mk hwi0
    clear hlo0 hhi0 hwi0
    have q1:=KS.out.cell 1 rfl
    have q2:=KS.out.cell 2 rfl
    have q3:=KS.out.cell 3 rfl
    have q4:=KS.out.cell 4 rfl
    have q5:=KS.out.cell 5 rfl
    have q6:=KS.out.cell 6 rfl
    have q8:=KS.out.cell 8 rfl
    have q9:=KS.out.cell 9 rfl
    have q10:=KS.out.cell 10 rfl
    have q11:=KS.out.cell 11 rfl
    have q12:=KS.out.cell 12 rfl
    have q13:=KS.out.cell 13 rfl
    have q14:=KS.out.cell 14 rfl
    have q15:=KS.out.cell 15 rfl
    rcases (show (decide ((300:Int)<(s.ys.length:Int))=true∧Bx (fewS n s=false))∨(decide ((300:Int)<(s.ys.length:Int))=false∧Bx (s.ys.length≤300)) from few_two fun h=>(by unfold fewS;simp [h])) with ⟨t1,G⟩ | ⟨t1,Ht1⟩
    rotate_left
    rcases (show (decide ((20:Int)<(s.cs.length:Int))=true∧Bx (fewS n s=false))∨(decide ((20:Int)<(s.cs.length:Int))=false∧Bx (s.cs.length≤20)) from few_two fun h=>(by unfold fewS;simp [h])) with ⟨t2,G⟩ | ⟨t2,Ht2⟩
    rotate_left
    have hva0:=fun W' (hb:Below wr.heap.size wr W')=>ref_valid s.g.lo.x s.g.lo.y s.g.lo.z s.g.hi.x s.g.hi.y s.g.hi.z s.ga s.gc s.ys Ht1.out W' (HOK.out.ys.below hb)
    rw [show (⟨⟨s.g.lo.x,s.g.lo.y,s.g.lo.z⟩,⟨s.g.hi.x,s.g.hi.y,s.g.hi.z⟩⟩:Box)=s.g from rfl] at hva0
    have hva:=Bx.mk hva0
    clear hva0
    rcases (show (validG s.g s.ys=false∧Bx (fewS n s=false))∨(validG s.g s.ys=true∧Bx (validG s.g s.ys=true)) from few_bool fun h=>(by unfold fewS;simp [h])) with ⟨h3,G⟩ | ⟨h3,Hh3⟩
    rotate_left
    rcases (show (okP s.b.lo=false∧Bx (fewS n s=false))∨(okP s.b.lo=true∧Bx (okP s.b.lo=true)) from few_bool fun h=>(by unfold fewS;simp [h])) with ⟨h4,G⟩ | ⟨h4,Hh4⟩
    rotate_left
    rcases (show (okP s.b.hi=false∧Bx (fewS n s=false))∨(okP s.b.hi=true∧Bx (okP s.b.hi=true)) from few_bool fun h=>(by unfold fewS;simp [h])) with ⟨h5,G⟩ | ⟨h5,Hh5⟩
    rotate_left
    rcases (show (decide ((5:Int)<(n:Int)+2)=false∧Bx (fewS n s=true))∨(decide ((5:Int)<(n:Int)+2)=true∧Bx (¬n≤3)) from few_n fun h=>(by unfold fewS;simp [h,Ht1.out,Ht2.out,h3,h4,h5])) with ⟨t6,G⟩ | ⟨t6,Ht6⟩
    rotate_left
    have hvo:=Bx.mk fun W' (_:Below wr.heap.size wr W')=>ref_vol s.b.lo.x s.b.lo.y s.b.lo.z s.b.hi.x s.b.hi.y s.b.hi.z (small_ok h4 h5) W'
    rw [show (⟨⟨s.b.lo.x,s.b.lo.y,s.b.lo.z⟩,⟨s.b.hi.x,s.b.hi.y,s.b.hi.z⟩⟩:Box)=s.b from rfl] at hvo
    rcases (show (decide ((4000:Int)<volB s.b)=false∧Bx (fewS n s=true))∨(decide ((4000:Int)<volB s.b)=true∧Bx (¬volB s.b≤4000)) from few_vol fun h=>(by unfold fewS;simp [h,Ht1.out,Ht2.out,h3,h4,h5])) with ⟨t7,G⟩ | ⟨t7,Ht7⟩
    rotate_left
    rcases (show (wideP n s.b=true∧Bx (fewS n s=true))∨(wideP n s.b=false∧Bx (fewS n s=false)) from few_wide (fun h=>(by unfold fewS;simp [h,Ht1.out,Ht2.out,h3,h4,h5])) (fun h=>(by unfold fewS;simp [h,Ht6.out,Ht7.out]))) with ⟨h8,G⟩ | ⟨h8,Hh8⟩
    all_goals
     go_wp2_with (first | (go_at_call 44;(with_reducible refine (hva.out _ HB.out).mono ?_);clear hva;rintro _ w3 ⟨rfl,hb3⟩;have KS3:=Bx.mk (KS.out.later hb3);have HB3:=Bx.mk (HB.out.trans (hb3.mono HB.out.size));clear q1 q2 q3 q4 q5 q6 q8 q9 q10 q11 q12 q13 q14 q15;clear KS HB hb3;have KS:=KS3;have HB:=HB3;clear KS3 HB3;have q1:=KS.out.cell 1 rfl;have q2:=KS.out.cell 2 rfl;have q3:=KS.out.cell 3 rfl;have q4:=KS.out.cell 4 rfl;have q5:=KS.out.cell 5 rfl;have q6:=KS.out.cell 6 rfl;have q8:=KS.out.cell 8 rfl;have q9:=KS.out.cell 9 rfl;have q10:=KS.out.cell 10 rfl;have q11:=KS.out.cell 11 rfl;have q12:=KS.out.cell 12 rfl;have q13:=KS.out.cell 13 rfl;have q14:=KS.out.cell 14 rfl;have q15:=KS.out.cell 15 rfl) | (go_at_call 17;(with_reducible refine (hlo.out _ HB.out).mono ?_);clear hlo;rintro _ w3 ⟨rfl,hb3⟩;have KS3:=Bx.mk (KS.out.later hb3);have HB3:=Bx.mk (HB.out.trans (hb3.mono HB.out.size));clear q1 q2 q3 q4 q5 q6 q8 q9 q10 q11 q12 q13 q14 q15;clear KS HB hb3;have KS:=KS3;have HB:=HB3;clear KS3 HB3;have q1:=KS.out.cell 1 rfl;have q2:=KS.out.cell 2 rfl;have q3:=KS.out.cell 3 rfl;have q4:=KS.out.cell 4 rfl;have q5:=KS.out.cell 5 rfl;have q6:=KS.out.cell 6 rfl;have q8:=KS.out.cell 8 rfl;have q9:=KS.out.cell 9 rfl;have q10:=KS.out.cell 10 rfl;have q11:=KS.out.cell 11 rfl;have q12:=KS.out.cell 12 rfl;have q13:=KS.out.cell 13 rfl;have q14:=KS.out.cell 14 rfl;have q15:=KS.out.cell 15 rfl) | (go_at_call 17;(with_reducible refine (hhi.out _ HB.out).mono ?_);clear hhi;rintro _ w3 ⟨rfl,hb3⟩;have KS3:=Bx.mk (KS.out.later hb3);have HB3:=Bx.mk (HB.out.trans (hb3.mono HB.out.size));clear q1 q2 q3 q4 q5 q6 q8 q9 q10 q11 q12 q13 q14 q15;clear KS HB hb3;have KS:=KS3;have HB:=HB3;clear KS3 HB3;have q1:=KS.out.cell 1 rfl;have q2:=KS.out.cell 2 rfl;have q3:=KS.out.cell 3 rfl;have q4:=KS.out.cell 4 rfl;have q5:=KS.out.cell 5 rfl;have q6:=KS.out.cell 6 rfl;have q8:=KS.out.cell 8 rfl;have q9:=KS.out.cell 9 rfl;have q10:=KS.out.cell 10 rfl;have q11:=KS.out.cell 11 rfl;have q12:=KS.out.cell 12 rfl;have q13:=KS.out.cell 13 rfl;have q14:=KS.out.cell 14 rfl;have q15:=KS.out.cell 15 rfl) | (go_at_call 45;(with_reducible refine (hvo.out _ HB.out).mono ?_);clear hvo;rintro _ w3 ⟨rfl,hb3⟩;have KS3:=Bx.mk (KS.out.later hb3);have HB3:=Bx.mk (HB.out.trans (hb3.mono HB.out.size));clear q1 q2 q3 q4 q5 q6 q8 q9 q10 q11 q12 q13 q14 q15;clear KS HB hb3;have KS:=KS3;have HB:=HB3;clear KS3 HB3;have q1:=KS.out.cell 1 rfl;have q2:=KS.out.cell 2 rfl;have q3:=KS.out.cell 3 rfl;have q4:=KS.out.cell 4 rfl;have q5:=KS.out.cell 5 rfl;have q6:=KS.out.cell 6 rfl;have q8:=KS.out.cell 8 rfl;have q9:=KS.out.cell 9 rfl;have q10:=KS.out.cell 10 rfl;have q11:=KS.out.cell 11 rfl;have q12:=KS.out.cell 12 rfl;have q13:=KS.out.cell 13 rfl;have q14:=KS.out.cell 14 rfl;have q15:=KS.out.cell 15 rfl) | (go_at_call 46;(with_reducible refine (hwi.out _ HB.out).mono ?_);clear hwi;rintro _ w3 ⟨rfl,hb3⟩;have KS3:=Bx.mk (KS.out.later hb3);have HB3:=Bx.mk (HB.out.trans (hb3.mono HB.out.size));clear q1 q2 q3 q4 q5 q6 q8 q9 q10 q11 q12 q13 q14 q15;clear KS HB hb3;have KS:=KS3;have HB:=HB3;clear KS3 HB3;have q1:=KS.out.cell 1 rfl;have q2:=KS.out.cell 2 rfl;have q3:=KS.out.cell 3 rfl;have q4:=KS.out.cell 4 rfl;have q5:=KS.out.cell 5 rfl;have q6:=KS.out.cell 6 rfl;have q8:=KS.out.cell 8 rfl;have q9:=KS.out.cell 9 rfl;have q10:=KS.out.cell 10 rfl;have q11:=KS.out.cell 11 rfl;have q12:=KS.out.cell 12 rfl;have q13:=KS.out.cell 13 rfl;have q14:=KS.out.cell 14 rfl;have q15:=KS.out.cell 15 rfl))
     first
      | (have HJ : Bx (Below w.heap.size w _ ∧ (L.take (k + 1)).all (fewS n) = true) := ⟨HI.out.1.trans (HB.out.mono HI.out.1.size), hstep.out (by first | exact G.out | exact Hh8.out)⟩
         go_roundw
         case rel=>exact ⟨k+1,by omega,by go_num,HJ⟩
         case measure=>simp [intOf];omega)
      | (go_ret;exact ⟨by rw [hbad.out (by first | exact G.out | exact Hh8.out)];rfl,HI.out.1.trans (HB.out.mono HI.out.1.size)⟩)
  · obtain rfl:k=m:=by omega
    have t0:decide ((k:Int)<(k:Int))=false:=by simp
    have he:Bx (L.all (fewS n)=true):=⟨by
     have h:=HI.out.2
     rwa [List.take_of_length_le (by have:=HM.out;omega)] at h⟩
    go_wp2_with fail
    go_ret
    exact ⟨by rw [he.out];rfl,HI.out.1⟩
end
section
open Go.RowKit Go.Sort Go.Maps
open Oct
set_option maxRecDepth 100000 in
set_option maxHeartbeats 1000000 in
theorem few10_no (a b c d e f dd:Int) (ha:Option Addr) (hcp:Nat) (xs:List Int) (la:Option Addr) (m lc:Nat) (h : ¬(xs.length≤300∧m≤8∧fromE ⟨⟨a,b,c⟩,⟨d,e,f⟩⟩ xs dd=0)) (w:World) (hsl:Sl w .i64 ha xs) :
 Calls Tryz.prog 9 #[.agg #[a,b,c,d,e,f,.slice ha xs.length hcp],dd,.slice la m lc] w fun e' w'=>e' = .returned (.bool false)∧Below w.heap.size w w':=by
 by_cases hl:xs.length≤300
 rotate_left
 · have t1:decide ((300:Int)<(xs.length:Int))=true:=by simp;omega
   generalize xs.length=xl at *
   clear h hl hsl
   go_enter Tryz.func9,Tryz.ntmps9
   go_wp2_with fail
   go_ret
   exact ⟨rfl,(Below.refl _ _).alloc (Nat.le_refl _) _⟩
 have t1:decide ((300:Int)<(xs.length:Int))=false:=by simp;omega
 by_cases hm:m≤8
 rotate_left
 · have t2:decide ((8:Int)<(m:Int))=true:=by simp;omega
   generalize xs.length=xl at *
   clear h hl hsl hm
   go_enter Tryz.func9,Tryz.ntmps9
   go_wp2_with fail
   go_ret
   exact ⟨rfl,(Below.refl _ _).alloc (Nat.le_refl _) _⟩
 have t2:decide ((8:Int)<(m:Int))=false:=by simp;omega
 have hE:fromE ⟨⟨a,b,c⟩,⟨d,e,f⟩⟩ xs dd ≠ 0:=fun he=>h ⟨hl,hm,he⟩
 have hch:=Bx.mk fun W h=>ref9_check a b c d e f ha hcp xs hl dd W h
 have t3:(fromE ⟨⟨a,b,c⟩,⟨d,e,f⟩⟩ xs dd != 0)=true:=bne_iff_ne.2 hE
 generalize fromE ⟨⟨a,b,c⟩,⟨d,e,f⟩⟩ xs dd=r at *
 have Hsl:=Bx.mk hsl
 generalize xs.length=xl at *
 clear h hl hsl hm hE
 go_enter Tryz.func9,Tryz.ntmps9
 go_upto_region 1 with fail
 generalize hW:World.alloc w _=W
 have hB:=bl1 hW
 have kg:Bk W w.heap.size #[a,b,c,d,e,f,.slice ha xl hcp] 28:=bk0 hW
 clear hW
 obtain ⟨c0,c1,c2,c3,c4,c5,c6⟩:=kg.c7
 have HC:=Bx.mk (hch.out W (Hsl.out.below hB))
 have HB0:=Bx.mk hB
 clear kg hB hch
 go_wp2_with fail
 refine HC.out.mono ?_
 rintro _ w2 ⟨rfl,hb2⟩
 have HB2:=Bx.mk (HB0.out.trans (hb2.mono HB0.out.size))
 clear hb2 HB0 HC c0 c1 c2 c3 c4 c5 c6
 go_wp2_with fail
 go_ret
 exact ⟨rfl,HB2.out⟩
end
end Go.Proofs.YtfcbajmjaifjlaaGreat
