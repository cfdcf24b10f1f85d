/- Tw1, Tw2, Tw3: joined by program, for one claim. -/
import Derived.Test.YtfcbajmjaifjlaaGreatM24
import Derived.Test.YtfcbajmjaifjlaaGreatM23
import Derived.Maps.AppendAt
set_option linter.unusedVariables false
set_option linter.unusedSimpArgs false
namespace Go.Proofs.YtfcbajmjaifjlaaGreat
section
open Go.RowKit Go.Sort Go.Maps
open Go.WideMaps (KeyLaw)
open Oct
theorem cubeLaw:KeyLaw Tryz.prog 39:=deep_law_laid nodeLaid (m:=3) (by omega) (of_decide_eq_true (by kernel_rfl)) (by kernel_rfl) (by kernel_rfl)
theorem cubeKeyed:Keyed Tryz.prog 39:=Keyed.of_law cubeLaw
theorem cubeCells : Tryz.prog.cellsOf 39=4:=by kernel_rfl
theorem pointCells : Tryz.prog.cellsOf 23=3:=by kernel_rfl
theorem cubeKeyType : Tryz.prog.keyType 39=true:=by kernel_rfl
theorem key_cube (x y z l:Int) (h : ∀ q∈[x,y,z,l],(Lit.int .i64 q).wf=true) : ∃ kl,keyOf Tryz.prog 39 (cubeV x y z l)=some kl:=by
 simp only [List.mem_cons,List.not_mem_nil,or_false,forall_eq_or_imp,forall_eq] at h
 obtain ⟨h1,h2,h3,h4⟩:=h
 obtain ⟨m,hm⟩:=typesMany
 unfold keyOf cubeV
 rw [Tryz.underlying39,hm]
 simp [cubeKeyType,Value.formed,Tryz.underlying39,cubeCells,Program.keyLits,Value.cells,Tryz.underlying23,Tryz.underlying3,intCells,pointCells,h1,h2,h3,h4,List.range_succ,List.mapM_cons,List.mapM_nil]
 rw [if_pos (by decide)]
 exact ⟨_,rfl⟩
theorem cubeV_inj {x y z l x' y' z' l':Int} (h:cubeV x y z l=cubeV x' y' z' l'):x=x'∧y=y'∧z=z'∧l=l':=by
 unfold cubeV at h
 injection h with h
 simp at h
 exact h
theorem wf_small (q:Int) (h:0≤q∧q≤16384):(Lit.int .i64 q).wf=true:=by
 have e:IntKind.i64.min = -9223372036854775808:=rfl
 have:=IntWalk.i64_in q (by omega)
 simp [Lit.wf,this,e]
 omega
theorem zeroB (w:World):(zeroValue 4).run Tryz.prog w = .ok (.bool false) w:=by kernel_rfl
theorem zeroC (w:World):(zeroValue 37).run Tryz.prog w = .ok (.slice none 0 0) w:=by kernel_rfl
theorem i64_andNot (x:Int) (i:Nat) (h0:0≤x) (h1:x≤1000000000) (hi:i≤30):bits .andNot .i64 x (2 ^ i - 1)=x - x % 2 ^ i:=by
 obtain ⟨a,rfl⟩:=Int.eq_ofNat_of_zero_le h0
 have hpos:0<2 ^ i:=Nat.two_pow_pos i
 have h30:2 ^ i≤2 ^ 30:=Nat.pow_le_pow_right (by decide) hi
 have hc:((2:Int) ^ i - 1)=((2 ^ i - 1:Nat):Int):=by
  rw [Int.natCast_sub hpos];simp
 rw [hc]
 show IntKind.i64.wrap ((BitVec.ofInt 64 (a:Int) &&& ~~~BitVec.ofInt 64 ((2 ^ i - 1:Nat):Int)).toNat:Int)=_
 have e:(BitVec.ofInt 64 (a:Int) &&& ~~~BitVec.ofInt 64 ((2 ^ i - 1:Nat):Int))=BitVec.ofNat 64 (a / 2 ^ i * 2 ^ i):=by
  apply BitVec.eq_of_getLsbD_eq
  intro j hj
  simp only [BitVec.ofInt_natCast,BitVec.getLsbD_and,BitVec.getLsbD_not,BitVec.getLsbD_ofNat,Nat.testBit_two_pow_sub_one,Nat.testBit_mul_two_pow,Nat.testBit_div_two_pow,hj,decide_true,Bool.true_and]
  by_cases h:j<i
  · simp [h]
    omega
  · rw [show j - i+i=j by omega]
    simp [h]
    omega
 rw [e,BitVec.toNat_ofNat]
 have hle:a / 2 ^ i * 2 ^ i≤a:=Nat.div_mul_le_self a (2 ^ i)
 rw [Nat.mod_eq_of_lt (by omega),IntWalk.i64_in _ (by omega)]
 have h3:=Nat.div_add_mod a (2 ^ i)
 have h4:((2:Int) ^ i)=((2 ^ i:Nat):Int):=by simp
 rw [h4]
 rw [Nat.mul_comm] at h3
 omega
theorem MapV.drewN {k:TypeId} {w:World} {b n:Nat} {f:Value→Option Value} (h:MapV k w b n f) (d:Nat):MapV k (w.drewN d) b n f:=h.of_block (by simp)
set_option maxHeartbeats 1000000 in
theorem write1_any (ax ay az l i:Int) (vt tm m:Nat) (ft:Value→Option Value) (t:Bool) (hwf : ∀ q∈[ax,ay,az,l],(Lit.int .i64 q).wf=true) (hft:(ft (cubeV ax ay az l)).getD (.bool false) = .bool t) (w:World) (kt:Bk w vt #[.map (some tm)] 160) (hM:MapV 39 w tm m ft) :
 Calls Tryz.prog 117 #[cubeV ax ay az l,i,.pointer (some ⟨vt,0,none⟩)] w fun e' w'=>e'=ret3 i (!t) 0∧Below w.heap.size w w':=by
 obtain ⟨kl,hkl⟩:=key_cube ax ay az l hwf
 have HM:=Bx.mk hM
 have Kt:=Bx.mk kt
 have Hk:=Bx.mk hkl
 have Hf:=Bx.mk hft
 clear hM kt hkl hft hwf
 go_enter Tryz.func117,Tryz.ntmps117
 go_upto_region 1 with fail
 generalize hW:World.alloc w _=W
 have hB:=bl1 hW
 have kc:Bk W w.heap.size #[ax,ay,az,l] 39:=bk0 hW
 clear hW
 obtain ⟨c0,c1,c2,c3⟩:=kc.c4
 have t0:=(Kt.out.later hB).cell 0 rfl
 have HM2:=Bx.mk (HM.out.of_block (hB.block tm HM.out.lt))
 have hl : ∀ d,(Instr.lookup 160 (.map (some tm)) (.agg #[ax,ay,az,l]) false).run Tryz.prog (W.drewN d) = .ok (.bool t) (W.drewN d):=fun d=>by
  rw [(MapV.look cubeKeyed Tryz.underlying160 (zeroB _) (HM2.out.drewN d) Hk.out).1,Hf.out]
 go_quiet (fail)
 go_wp2_with fail
 go_ret3
 exact ⟨rfl,hB.trans ⟨rfl,rfl,rfl,Nat.le_refl _,fun _ _=>rfl⟩⟩
end
section
open Go.RowKit Go.Sort Go.Maps
open Oct
set_option maxRecDepth 100000 in
set_option maxHeartbeats 1000000 in
theorem write_brick (ax ay az:Int) (hx:0≤ax∧ax≤16384) (hy:0≤ay∧ay≤16384) (hz:0≤az∧az≤16384) (vb bm m g Bd cap:Nat) (fb:Value→Option Value) (hc:Option Addr) (hcp:Nat) (xs:List Int) (cs:List Chg) (hl:xs.length=64) (hC:cs.length≤4194304) (hcap:cs.length≤hcp) (hfb:(fb (cubeV ax ay az 2)).getD (.slice none 0 0) = .slice hc cs.length hcp) (w:World) (kb:Bk w vb #[.map (some bm)] 159) (hM:MapV 39 w bm m fb) (hs:SlC w hc cs) (ho:Own w Bd 3 .i64 (.slice (some ⟨g,0,none⟩) xs.length cap) xs) :
 Calls Tryz.prog 118 #[cubeV ax ay az 2,.slice (some ⟨g,0,none⟩) xs.length cap,.pointer (some ⟨vb,0,none⟩)] w fun e' w'=>e' = .returned (.tuple #[])∧Own w' Bd 3 .i64 (.slice (some ⟨g,0,none⟩) xs.length cap) (wrL ⟨⟨ax,ay,az⟩,⟨ax+4,ay+4,az+4⟩⟩ cs xs)∧Keeps (fun k=>k<Bd) w w':=by
 obtain ⟨kl,hkl⟩:=key_cube ax ay az 2 (by
  intro q hq
  simp only [List.mem_cons,List.not_mem_nil,or_false] at hq
  have:0≤q∧q≤16384:=by rcases hq with rfl | rfl | rfl | rfl <;> omega
  exact wf_small q this)
 have Hk:=Bx.mk hkl
 have Hf:=Bx.mk hfb
 clear hkl hfb
 have hbox:=Bx.mk (fun W=>box_any 2 (by omega) ax ay az 4 (by decide) (by omega) (by omega) (by omega) W)
 rw [show ((2:Nat):Int)=2 from rfl] at hbox
 have hSA:Small ⟨⟨ax,ay,az⟩,⟨ax+4,ay+4,az+4⟩⟩ 1048575:=⟨by simp only [];omega,by simp only [];omega,by simp only [];omega,by simp only [];omega,by simp only [];omega,by simp only [];omega⟩
 have hxl:xs.length=(volB ⟨⟨ax,ay,az⟩,⟨ax+4,ay+4,az+4⟩⟩).toNat:=by rw [hl,(cube4 ax ay az).2.2];rfl
 have hg:=Bx.mk (fun W h0 h=>gridWrite_any ax ay az (ax+4) (ay+4) (az+4) (some ⟨g,0,none⟩) hc cap hcp xs cs W hC hcap h0 hSA hxl (by omega) (by omega) h)
 unfold RetG1 at hg
 have hzl:(wrL ⟨⟨ax,ay,az⟩,⟨ax+4,ay+4,az+4⟩⟩ cs xs).length=64:=by rw [wrL_len,hl]
 have Hzl:=Bx.mk hzl
 generalize (wrL ⟨⟨ax,ay,az⟩,⟨ax+4,ay+4,az+4⟩⟩ cs xs)=zs at *
 have HL:=Bx.mk hl
 clear hl
 clear hSA hxl hx hy hz hzl hC hcap
 go_enter Tryz.func118,Tryz.ntmps118
 go_upto_region 1 with fail
 generalize hW:World.alloc w _=W
 have hB:=bl1 hW
 have kp:Bk W (w.heap.size) #[ax,ay,az,(2:Int)] 39:=bk0 hW
 clear hW
 have KP:=Bx.mk kp
 have KB:=Bx.mk (kb.later hB)
 have HM:=Bx.mk (hM.of_block (hB.block bm hM.lt))
 have HS:=Bx.mk (hs.below hB)
 have HO:=Bx.mk (ho.below hB)
 have HB:=Bx.mk hB
 have hgl:=(ho.lt g rfl)
 have hWs:=hB.size
 clear kp kb hs ho hB hM
 refine wp_region_rel 9 (fun i v w'=>match i with
  | 0=>v=cubeV ax ay az 2
  | 1=>v = .agg #[ax,ay,az,.int .i64 (ax+4),.int .i64 (ay+4),.int .i64 (az+4)]
  | 2=>v = .slice (some ⟨g,0,none⟩) xs.length cap
  | 3=>v = .agg #[ax,ay,az,.int .i64 (ax+4),.int .i64 (ay+4),.int .i64 (az+4),.slice (some ⟨g,0,none⟩) xs.length cap]
  | 4=>v = .map (some bm)
  | 5=>v=cubeV ax ay az 2
  | 6=>v = .slice hc cs.length hcp
  | 7 => ∃ pa pc,v = .agg #[ax,ay,az,.int .i64 (ax+4),.int .i64 (ay+4),.int .i64 (az+4),.slice pa xs.length pc]∧Own w' W.heap.size 3 .i64 (.slice pa xs.length pc) zs
  | _ => ∃ g2,v = .pointer (some ⟨g2,0,none⟩)∧W.heap.size≤g2∧Bk w' g2 #[(0:Int),(0:Int),(0:Int),(0:Int),(0:Int),(0:Int),.slice none 0 0] 28) (by kernel_rfl) (by kernel_rfl) 18 (by kernel_rfl) (by rfl) ?_ ?_ ?_
 · intro i hi v u1 u2 hb h
   match i,hi with
   | 0,_=>exact h
   | 1,_=>exact h
   | 2,_=>exact h
   | 3,_=>exact h
   | 4,_=>exact h
   | 5,_=>exact h
   | 6,_=>exact h
   | 7,_=>obtain ⟨pa,pc,h1,h2⟩:=h;exact ⟨pa,pc,h1,h2.below hb⟩
   | 8,_=>obtain ⟨g2,h1,h2,h3⟩:=h;exact ⟨g2,h1,h2,h3.later hb⟩
 · intro i o hi ho ρ w1 hb hc1 hc2 hc3 hk
   match i,hi with
   | 0, _ =>
     obtain rfl:=Option.some.inj ho
     have h2:ρ (.tmp 3) = .pointer (some ⟨w.heap.size,0,none⟩):=hk 3 (by simp [Op.operands])
     have k1:=KP.out.later hb
     obtain ⟨c0,c1,c2,c3⟩:=k1.c4
     clear hk hb hbox hg
     go_simp
     exact Below.refl _ _
   | 1, _ =>
     obtain rfl:=Option.some.inj ho
     have h2:ρ (.tmp 6)=cubeV ax ay az 2:=hk 6 (by simp [Op.operands,Call.operands])
     have h4:=hbox.out w1
     have H4:=Bx.mk h4
     clear hk hb h4 hbox hg
     go_simp
     all_goals exact H4.out
   | 2, _ =>
     obtain rfl:=Option.some.inj ho
     have h2:ρ (.tmp 1) = .slice (some ⟨g,0,none⟩) xs.length cap:=hk 1 (by simp [Op.operands])
     clear hk hb hbox hg
     go_simp
     exact Below.refl _ _
   | 3, _ =>
     obtain rfl:=Option.some.inj ho
     have h2:ρ (.tmp 7) = .agg #[ax,ay,az,.int .i64 (ax+4),.int .i64 (ay+4),.int .i64 (az+4)]:=hk 7 (by simp [Op.operands])
     have h3:ρ (.tmp 8) = .slice (some ⟨g,0,none⟩) xs.length cap:=hk 8 (by simp [Op.operands])
     clear hk hb hbox hg
     go_simp
     exact Below.refl _ _
   | 4, _ =>
     obtain rfl:=Option.some.inj ho
     have h2:ρ (.tmp 2) = .pointer (some ⟨vb,0,none⟩):=hk 2 (by simp [Op.operands])
     have k1:=KB.out.later hb
     have c0:=k1.cell 0 rfl
     clear hk hb hbox hg
     go_simp
     exact Below.refl _ _
   | 5, _ =>
     obtain rfl:=Option.some.inj ho
     have h2:ρ (.tmp 3) = .pointer (some ⟨w.heap.size,0,none⟩):=hk 3 (by simp [Op.operands])
     have k1:=KP.out.later hb
     obtain ⟨c0,c1,c2,c3⟩:=k1.c4
     clear hk hb hbox hg
     go_simp
     exact Below.refl _ _
   | 6, _ =>
     obtain rfl:=Option.some.inj ho
     have h2:ρ (.tmp 10) = .map (some bm):=hk 10 (by simp [Op.operands])
     have h3:ρ (.tmp 11)=cubeV ax ay az 2:=hk 11 (by simp [Op.operands])
     have hl:(Instr.lookup 159 (.map (some bm)) (cubeV ax ay az 2) false).run Tryz.prog w1 = .ok (.slice hc cs.length hcp) w1:=by
      rw [(MapV.look cubeKeyed Tryz.underlying159 (zeroC _) (HM.out.of_block (hb.block bm HM.out.lt)) Hk.out).1,Hf.out]
     clear hk hb hbox hg
     go_simp
     exact Below.refl _ _
   | 7, _ =>
     obtain rfl:=Option.some.inj ho
     have h2:ρ (.tmp 9) = .agg #[ax,ay,az,.int .i64 (ax+4),.int .i64 (ay+4),.int .i64 (az+4),.slice (some ⟨g,0,none⟩) xs.length cap]:=hk 9 (by simp [Op.operands,Call.operands])
     have h3:ρ (.tmp 12) = .slice hc cs.length hcp:=hk 12 (by simp [Op.operands,Call.operands])
     have h4:=(hg.out w1 (HS.out.below hb) (by obtain ⟨a1,c1,e1,h1⟩:=(HO.out.below hb).form;injection e1 with e1 _ _;subst e1;exact h1)).mono (R':=fun e' w'' => ∃ v,e' = .returned v∧Below w1.heap.size w1 w'' ∧ ∃ pa pc,v = .agg #[ax,ay,az,.int .i64 (ax+4),.int .i64 (ay+4),.int .i64 (az+4),.slice pa xs.length pc]∧Own w'' W.heap.size 3 .i64 (.slice pa xs.length pc) zs) (fun e' w'' ⟨pa,pc,x,_,y,z⟩=>⟨_,x,z,pa,pc,rfl,y.base hb.size⟩)
     have H4:=Bx.mk h4
     clear hk hb h4 hbox hg
     go_simp
     all_goals exact H4.out
   | 8, _ =>
     obtain rfl:=Option.some.inj ho
     have hbs:=hb.size
     have hnew:Bk (w1.alloc (.cells #[(0:Int),(0:Int),(0:Int),(0:Int),(0:Int),(0:Int),.slice none 0 0] 28)) w1.heap.size #[(0:Int),(0:Int),(0:Int),(0:Int),(0:Int),(0:Int),.slice none 0 0] 28:=Bk.new _ _ _
     have Hn:=Bx.mk hnew
     clear hk hb hbox hg hnew
     go_simp
     exact ⟨(Below.refl _ _).alloc (Nat.le_refl _) _,Hn.out⟩
 · intro vs W1 hlen hb hR
   match vs,hlen with
   | [v0, v1, v2, v3, v4, v5, v6, v7, v8], _ =>
     have r0:v0=cubeV ax ay az 2:=hR 0 v0 rfl
     have r1:v1 = .agg #[ax,ay,az,.int .i64 (ax+4),.int .i64 (ay+4),.int .i64 (az+4)]:=hR 1 v1 rfl
     have r2:v2 = .slice (some ⟨g,0,none⟩) xs.length cap:=hR 2 v2 rfl
     have r3:v3 = .agg #[ax,ay,az,.int .i64 (ax+4),.int .i64 (ay+4),.int .i64 (az+4),.slice (some ⟨g,0,none⟩) xs.length cap]:=hR 3 v3 rfl
     have r4:v4 = .map (some bm):=hR 4 v4 rfl
     have r5:v5=cubeV ax ay az 2:=hR 5 v5 rfl
     have r6:v6 = .slice hc cs.length hcp:=hR 6 v6 rfl
     obtain ⟨pa,pc,r7,hown⟩ : ∃ pa pc,v7 = .agg #[ax,ay,az,.int .i64 (ax+4),.int .i64 (ay+4),.int .i64 (az+4),.slice pa xs.length pc]∧Own W1 W.heap.size 3 .i64 (.slice pa xs.length pc) zs:=hR 7 v7 rfl
     obtain ⟨g2,r8,hg2,kg⟩ : ∃ g2,v8 = .pointer (some ⟨g2,0,none⟩)∧W.heap.size≤g2∧Bk W1 g2 #[(0:Int),(0:Int),(0:Int),(0:Int),(0:Int),(0:Int),.slice none 0 0] 28:=hR 8 v8 rfl
     subst r0 r1 r2 r3 r4 r5 r6 r7 r8
     clear hR hbox hg
     obtain ⟨g3,c3,hv3,-,-,-,-,-⟩:=hown.at (by rw [Hzl.out];decide)
     injection hv3 with e1 e2 e3
     subst e1
     clear e2 e3
     have hne:g3 ≠ g2:=fun e=>by
      obtain ⟨cur3,q1,-⟩:=hown.raw
      rw [e] at q1
      have q2:W1.heap[g2]? = _:=kg
      rw [q1] at q2
      injection q2 with q2
      injection q2 with _ q2
      exact absurd q2 (by decide)
     have Hown:=Bx.mk hown
     have Hb:=Bx.mk hb
     clear hown hb
     have cg0:=kg.cell 0 rfl
     have fg0:=kg.frozen 0
     have cg1:=kg.cell 1 rfl
     have fg1:=kg.frozen 1
     have cg2:=kg.cell 2 rfl
     have fg2:=kg.frozen 2
     have cg3:=kg.cell 3 rfl
     have fg3:=kg.frozen 3
     have cg4:=kg.cell 4 rfl
     have fg4:=kg.frozen 4
     have cg5:=kg.cell 5 rfl
     have fg5:=kg.frozen 5
     have cg6:=kg.cell 6 rfl
     have fg6:=kg.frozen 6
     simp only [puts,List.take_succ_cons,List.take_zero,List.drop_succ_cons,List.drop_zero,List.map_cons,List.map_nil,List.zip_cons_cons,List.zip_nil_right,List.foldl_cons,List.foldl_nil]
     go_upto_region 2 with fail
     have kg5:=kg.put7 (.int .i64 ax) (.int .i64 ay) (.int .i64 az) (.int .i64 (ax+4)) (.int .i64 (ay+4)) (.int .i64 (az+4)) (.slice (some ⟨g3,0,none⟩) xs.length pc)
     have hgr:W1.grownBy _ (some g2):=grown_set (grown_set (grown_set (grown_set (grown_set (grown_set (grown_set (World.grownBy.refl W1 (some g2)) 0 (.int .i64 ax)) 1 (.int .i64 ay)) 2 (.int .i64 az)) 3 (.int .i64 (ax+4))) 4 (.int .i64 (ay+4))) 5 (.int .i64 (az+4))) 6 (.slice (some ⟨g3,0,none⟩) xs.length pc)
     clear cg0 fg0 cg1 fg1 cg2 fg2 cg3 fg3 cg4 fg4 cg5 fg5 cg6 fg6 kg
     generalize World.setCell _ ⟨g2,6,none⟩ _=W5 at *
     have hg2w:Bd≤g2∧g ≠ g2:=by omega
     have hown5:Own W5 W.heap.size 3 .i64 (.slice (some ⟨g3,0,none⟩) xs.length pc) zs:=World.ownsRow.kept Hown.out hgr (.inr (fun e=>by injection e with e;exact hne e))
     have ho5:Own W5 Bd 3 .i64 (.slice (some ⟨g,0,none⟩) xs.length cap) xs:=World.ownsRow.kept (HO.out.below Hb.out) hgr (.inr (fun e=>by injection e with e;exact hg2w.2 e))
     obtain ⟨a3,c3',hv3,hsl3⟩:=hown5.form
     injection hv3 with e1 e2 e3
     subst e1
     clear e2 e3
     obtain ⟨cur,q1,q2,q3,q4,q5,q6,q7⟩:=ho5.raw
     have HK:=Bx.mk ((((Keeps.below HB.out).trans (Keeps.below Hb.out)).trans (Keeps.grown hgr (fun k e hk=>by injection e with e;subst e;have:g2<Bd:=hk;omega))):Keeps (fun k=>k<Bd) w W5)
     have hcop:=Bx.mk (copied q1 q2 q4 q5 q6 (zs:=zs) (by rw [Hzl.out,HL.out]) (xs:=xs))
     have cc6:W5.cell? ⟨g2,6,none⟩=some (.slice (some ⟨g3,0,none⟩) xs.length pc):=kg5.cell 6 rfl
     have Q1:=Bx.mk q1
     have HSL:=Bx.mk hsl3
     have hn1:(zs.map (Value.int .i64)).length=Nat.min xs.length xs.length:=by rw [List.length_map,Hzl.out,HL.out];rfl
     have hfit:0+(zs.map (Value.int .i64)).length≤cur.toArray.size:=by rw [List.length_map,Hzl.out,List.size_toArray,q2];have:=HL.out;omega
     have HN1:=Bx.mk hn1
     have HF1:=Bx.mk hfit
     clear hown5 ho5 hsl3 kg5 hgr q1 q3 Hown q2 q4 q5 q6 q7 hn1 hfit hg2w hgl hWs hg2 hne
     go_wp2_with (refine wpList_copy_own rfl (.tmp 14) (.tmp 16) 26 26 rfl 3 Tryz.underlying26 (by kernel_rfl) g 0 xs.length cap ⟨g3,0,none⟩ xs.length pc rfl rfl cur.toArray 3 Q1.out (zs.map (Value.int .i64)) HN1.out (src_cells HSL.out) HF1.out (one_cells zs) ?_)
     go_end0
     exact ⟨rfl,hcop.out.1,HK.out.trans hcop.out.2⟩
end
section
open Go.RowKit Go.Sort Go.Maps
open Oct
def lowP (n:Nat) (p:Pt):Pt:=⟨p.x - p.x % 2 ^ (n+2),p.y - p.y % 2 ^ (n+2),p.z - p.z % 2 ^ (n+2)⟩
theorem low1 (x m:Int):x - x % m=m * (x / m):=by have:=Int.mul_ediv_add_emod x m;omega
theorem low_al (n:Nat) (p:Pt):Tr.Al n (lowP n p):=by
 refine ⟨?_,?_,?_⟩ <;> (simp only [lowP];rw [low1];exact Int.mul_emod_right _ _)
theorem low_in (n:Nat) (p:Pt):Tr.InC n (lowP n p) p:=by
 have hp:=Tr.pow_pos2 n
 refine ⟨?_,?_,?_⟩ <;> (simp only [lowP];rw [low1,Int.mul_ediv_cancel_left _ (by omega)])
theorem low_eq {n:Nat} {a p:Pt} (h:Tr.Al n a):a=lowP n p ↔ Tr.InC n a p:=by
 refine ⟨fun e=>e ▸ low_in n p,fun hi=>?_⟩
 obtain ⟨x,y,z⟩:=h
 obtain ⟨i,j,k⟩:=hi
 have e1:=Int.mul_ediv_add_emod a.x (2 ^ (n+2))
 have e2:=Int.mul_ediv_add_emod a.y (2 ^ (n+2))
 have e3:=Int.mul_ediv_add_emod a.z (2 ^ (n+2))
 unfold lowP
 rw [low1,low1,low1,i,j,k]
 cases a
 simp only at *
 congr 1 <;> omega
instance (n:Nat) (a p:Pt):Decidable (Tr.InC n a p):=by unfold Tr.InC;infer_instance
def inb (l:List Chg) (a:Pt):List Chg:=l.filter fun c=>decide (Tr.InC 0 a c.at)
theorem inb_app (l:List Chg) (c:Chg) (a:Pt):inb (l++[c]) a=inb l a++if Tr.InC 0 a c.at then [c] else []:=by
 unfold inb
 rw [List.filter_append]
 congr 1
 by_cases h:Tr.InC 0 a c.at
 · simp [h]
 · simp [h]
abbrev ccells (l:List Chg):List Value:=l.flatMap Chg.cells
def TouchM (N tm m:Nat) (T:Nat→Pt→Prop) (W:World):Prop :=
 ∃ ft,MapV 39 W tm m ft ∧ ∀ n a,n≤N→Tr.Al n a→(T n a→ft (cubeV a.x a.y a.z ((n:Int)+2))=some (.bool true))∧(¬T n a→ft (cubeV a.x a.y a.z ((n:Int)+2))=none)
def BrickM (B bm m:Nat) (Av:Nat→Prop) (l:List Chg) (W:World):Prop :=
 ∃ fb, MapV 39 W bm m fb ∧
   (∀ a,Tr.Al 0 a→(inb l a=[]→fb (cubeV a.x a.y a.z 2)=none)∧(inb l a ≠ [] → ∃ v,fb (cubeV a.x a.y a.z 2)=some v∧W.ownsRow B 96 5 v (inb l a).length (ccells (inb l a)) ∧ ∀ g,v.ownBlock=some g → ¬Av g)) ∧
   ∀ a a' v v' g,Tr.Al 0 a→Tr.Al 0 a'→fb (cubeV a.x a.y a.z 2)=some v→fb (cubeV a'.x a'.y a'.z 2)=some v'→v.ownBlock=some g→v'.ownBlock=some g→a=a'
structure WK (w0:World) (Av:Nat→Prop) (N vt vb tm bm m:Nat) (T:Nat→Pt→Prop) (l:List Chg) (W:World):Prop where
 bel:Below w0.heap.size w0 W
 kt:Bk W vt #[.map (some tm)] 160
 kb:Bk W vb #[.map (some bm)] 159
 ge:w0.heap.size≤vt∧w0.heap.size≤vb∧w0.heap.size≤tm∧w0.heap.size≤bm
 av:Av vt∧Av vb∧Av tm∧Av bm
 lt : ∀ k,Av k→k<W.heap.size
 ne:vt ≠ tm∧vt ≠ bm∧vb ≠ tm∧vb ≠ bm∧tm ≠ bm
 tmap:TouchM N tm m T W
 bmap:BrickM w0.heap.size bm m Av l W
theorem WK.later {w0 W W':World} {Av:Nat→Prop} {N vt vb tm bm m:Nat} {T:Nat→Pt→Prop} {l:List Chg} (h:WK w0 Av N vt vb tm bm m T l W) (hb:Below W.heap.size W W'):WK w0 Av N vt vb tm bm m T l W':=by
 obtain ⟨h1,h2,h3,h4,hav,hlt,h5,⟨ft,t1,t2⟩,⟨fb,b1,b2,b3⟩⟩:=h
 have hg:=grown_of_below hb
 refine ⟨h1.trans (hb.mono h1.size),h2.later hb,h3.later hb,h4,hav,fun k hk=>Nat.lt_of_lt_of_le (hlt k hk) hb.size,h5,⟨ft,t1.of_block (hb.block _ t1.lt),t2⟩,⟨fb,b1.of_block (hb.block _ b1.lt),fun a ha=>⟨(b2 a ha).1,fun hn=>?_⟩,b3⟩⟩
 obtain ⟨v,q1,q2,q3⟩:=(b2 a ha).2 hn
 exact ⟨v,q1,World.ownsRow.kept q2 hg (by cases v.ownBlock <;> simp),q3⟩
theorem WK.avoid {w0 W:World} {Av Av':Nat→Prop} {N vt vb tm bm m:Nat} {T:Nat→Pt→Prop} {l:List Chg} (h:WK w0 Av N vt vb tm bm m T l W) {W':World} (hb:Below W.heap.size W W') (h' : ∀ k,Av' k→Av k∨W.heap.size≤k) (hlt' : ∀ k,Av' k→k<W'.heap.size) (hav':Av' vt∧Av' vb∧Av' tm∧Av' bm):WK w0 Av' N vt vb tm bm m T l W':=by
 have hl:=h.later hb
 obtain ⟨h1,h2,h3,h4,hav,hlt,h5,tm,⟨fb,b1,b2,b3⟩⟩:=hl
 obtain ⟨-,-,-,-,-,-,-,-,⟨fb0,c1,c2,c3⟩⟩:=h
 refine ⟨h1,h2,h3,h4,hav',hlt',h5,tm,⟨fb0,c1.of_block (hb.block _ c1.lt),fun a ha=>⟨(c2 a ha).1,fun hn=>?_⟩,c3⟩⟩
 obtain ⟨v,q1,q2,q3⟩:=(c2 a ha).2 hn
 refine ⟨v,q1,World.ownsRow.kept q2 (grown_of_below hb) (by cases v.ownBlock <;> simp),fun g hg ha'=>?_⟩
 rcases h' g ha' with h | h
 · exact q3 g hg h
 · have:=(World.ownsRow.lt q2 g hg).2;omega
theorem below_grown {w0 W W':World} {g:Nat} (h:Below w0.heap.size w0 W) (hg:W.grownBy W' (some g)) (hge:w0.heap.size≤g):Below w0.heap.size w0 W' :=
 h.trans ⟨hg.os,hg.tape,hg.output,hg.size,fun k hk=>hg.block k (Nat.lt_of_lt_of_le hk h.size) (fun e=>by injection e with e;omega)⟩
theorem WK.touch {w0 W:World} {Av:Nat→Prop} {N vt vb tm bm m:Nat} {T:Nat→Pt→Prop} {l:List Chg} (h:WK w0 Av N vt vb tm bm m T l W) (hm:m<maxLen) (n:Nat) (p:Pt) (hwf : ∀ q∈[(lowP n p).x,(lowP n p).y,(lowP n p).z,(n:Int)+2],(Lit.int .i64 q).wf=true) :
 ∃ W',(Instr.mapUpdate 160 (.map (some tm)) (cubeV (lowP n p).x (lowP n p).y (lowP n p).z ((n:Int)+2)) (.bool true)).run Tryz.prog W = .ok () W'∧WK w0 Av N vt vb tm bm (m+1) (fun n' a=>T n' a∨(n'=n∧Tr.InC n a p)) l W'∧W'.heap.size=W.heap.size∧W.grownBy W' (some tm):=by
 obtain ⟨h1,h2,h3,h4,hav,hlt,h5,⟨ft,t1,t2⟩,⟨fb,b1,b2,b3⟩⟩:=h
 obtain ⟨kl,hkl⟩:=key_cube _ _ _ _ hwf
 obtain ⟨W',hrun,hM,hg,hs⟩:=t1.put cubeKeyed Tryz.underlying160 hm hkl (.bool true)
 refine ⟨W',hrun,⟨below_grown h1 hg h4.2.2.1,h2.grown hg h5.1,h3.grown hg h5.2.2.1,h4,hav,fun k hk=>Nat.lt_of_lt_of_le (hlt k hk) hg.size,h5,⟨_,hM,fun n' a hn ha=>?_⟩,⟨fb,(b1.kept hg (by intro e;injection e with e;exact h5.2.2.2.2 e.symm)).mono (by omega),fun a ha=>⟨(b2 a ha).1,fun hn=>?_⟩,b3⟩⟩,hs,hg⟩
 · by_cases e:n'=n∧Tr.InC n a p
   · obtain ⟨rfl,e⟩:=e
     have ea:=(low_eq ha).2 e
     rw [ea,putV_same]
     exact ⟨fun _=>rfl,fun hne=>absurd (.inr ⟨rfl,ea ▸ e⟩) hne⟩
   · rw [putV_other]
     · obtain ⟨q1,q2⟩:=t2 n' a hn ha
       exact ⟨fun ht=>q1 (ht.resolve_right e),fun ht=>q2 (fun h=>ht (.inl h))⟩
     · intro ek
       obtain ⟨x,y,z,hl⟩:=cubeV_inj ek
       obtain rfl:n'=n:=by omega
       refine e ⟨rfl,(low_eq ha).1 ?_⟩
       cases a;cases hq:lowP n' p
       rw [hq] at x y z
       simp only at x y z
       rw [x,y,z]
 · obtain ⟨v,q1,q2,q3⟩:=(b2 a ha).2 hn
   exact ⟨v,q1,World.ownsRow.kept q2 hg (by
    cases hv:v.ownBlock with
    | none=>exact .inl rfl
    | some g=>exact .inr (fun e=>q3 g hv (by injection e with e;exact e ▸ hav.2.2.1))),q3⟩
structure Mid (w0 W W2:World) (Av:Nat→Prop) (N vt vb tm bm m:Nat) (T:Nat→Pt→Prop) (l:List Chg) (c:Chg) (v0:Value) (st:Nat):Prop where
 own:W2.ownsRow w0.heap.size 96 5 v0 (inb l (lowP 0 c.at)).length (ccells (inb l (lowP 0 c.at)))
 nav : ∀ g,v0.ownBlock=some g → ¬Av g
 bel:Below w0.heap.size w0 W2
 size:W2.heap.size=W.heap.size
 grown:W.grownBy W2 (some bm)
 push : ∀ W3 v',W2.grownBy W3 v0.ownBlock→W3.ownsRow w0.heap.size 96 5 v' ((inb l (lowP 0 c.at)).length+1) (ccells (inb l (lowP 0 c.at))++c.cells)→(v'.ownBlock=v0.ownBlock∨v'.ownBlock=some W2.heap.size) →
  ∃ W4,(Instr.entryStore 159 (.map (some bm)) (.int .i64 st) v').run Tryz.prog W3 = .ok () W4∧WK w0 Av N vt vb tm bm (m+1) T (l++[c]) W4∧W4.heap.size=W3.heap.size∧(∀ g,g<W.heap.size→g ≠ bm→v0.ownBlock ≠ some g→W4.heap[g]? = W.heap[g]?)
theorem WK.entry {w0 W:World} {Av:Nat→Prop} {N vt vb tm bm m:Nat} {T:Nat→Pt→Prop} {l:List Chg} (h:WK w0 Av N vt vb tm bm m T l W) (hm:m<maxLen) (c:Chg) (hwf : ∀ q∈[(lowP 0 c.at).x,(lowP 0 c.at).y,(lowP 0 c.at).z,2],(Lit.int .i64 q).wf=true) :
 ∃ v0 st W2,(Instr.mapEntry 159 (.map (some bm)) (cubeV (lowP 0 c.at).x (lowP 0 c.at).y (lowP 0 c.at).z 2)).run Tryz.prog W = .ok (.tuple #[v0,.int .i64 (st:Nat)]) W2∧Mid w0 W W2 Av N vt vb tm bm m T l c v0 st:=by
 obtain ⟨h1,h2,h3,h4,hav,hlt,h5,⟨ft,t1,t2⟩,⟨fb,b1,b2,b3⟩⟩:=h
 obtain ⟨kl,hkl⟩:=key_cube _ _ _ _ hwf
 obtain ⟨st,W2,hrun,hg,hs,hst⟩:=b1.entry cubeLaw Tryz.underlying159 zeroC hm hkl
 have ha0:=low_al 0 c.at
 have hi0:=low_in 0 c.at
 -- the row that stands there
 have hrow:W.ownsRow w0.heap.size 96 5 ((fb (cubeV (lowP 0 c.at).x (lowP 0 c.at).y (lowP 0 c.at).z 2)).getD (.slice none 0 0)) (inb l (lowP 0 c.at)).length (ccells (inb l (lowP 0 c.at)))∧(∀ g,((fb (cubeV (lowP 0 c.at).x (lowP 0 c.at).y (lowP 0 c.at).z 2)).getD (.slice none 0 0)).ownBlock=some g → ¬Av g) ∧
  ∀ g,((fb (cubeV (lowP 0 c.at).x (lowP 0 c.at).y (lowP 0 c.at).z 2)).getD (.slice none 0 0)).ownBlock=some g → ∀ a v,Tr.Al 0 a→fb (cubeV a.x a.y a.z 2)=some v→v.ownBlock=some g→a=lowP 0 c.at:=by
  obtain ⟨r1,r2⟩:=b2 _ ha0
  by_cases hn:inb l (lowP 0 c.at)=[]
  · rw [r1 hn,hn]
    exact ⟨World.ownsRow_nil _ _ _ _,(fun g hg=>by cases hg),(fun g hg=>by cases hg)⟩
  · obtain ⟨v,q1,q2,q3⟩:=r2 hn
    rw [q1]
    exact ⟨q2,q3,fun g hg a v' ha hv hg'=>b3 a _ v' v g ha ha0 hv q1 hg' hg⟩
 obtain ⟨hr1,hr2,hr3⟩:=hrow
 generalize (fb (cubeV (lowP 0 c.at).x (lowP 0 c.at).y (lowP 0 c.at).z 2)).getD (.slice none 0 0)=v0 at *
 refine ⟨v0,st,W2,hrun,⟨?_,hr2,below_grown h1 hg h4.2.2.2,hs,hg,fun W3 v' hg3 hrow hat=>?_⟩⟩
 · exact World.ownsRow.kept hr1 hg (by
    cases hv:v0.ownBlock with
    | none=>exact .inl rfl
    | some g=>exact .inr (fun e=>hr2 g hv (by injection e with e;exact e ▸ hav.2.2.2)))
 · have hbm2:bm<W2.heap.size:=by rw [hs];exact b1.lt
   have hbmne:some bm ≠ v0.ownBlock:=fun e=>hr2 bm e.symm hav.2.2.2
   obtain ⟨W4,hrun4,hM4,hg4,hs4⟩:=hst W3 v' (hg3.block bm hbm2 hbmne)
   have hnb : ∀ g,v'.ownBlock=some g → ¬Av g:=by
    intro g hgv
    rcases hat with e | e
    · exact hr2 g (e.symm.trans hgv)
    · rw [e] at hgv
      obtain rfl:=Option.some.inj hgv
      intro h;have:=hlt _ h;omega
   have hold : ∀ g,g<W.heap.size→g ≠ bm→v0.ownBlock ≠ some g→W4.heap[g]? = W.heap[g]? := fun g hlt hne hv =>
    ((hg4.block g (Nat.lt_of_lt_of_le hlt (hs ▸ hg3.size)) (fun e=>hne (by injection e))).trans (hg3.block g (by omega) (fun e=>hv e.symm))).trans (hg.block g hlt (fun e=>hne (by injection e)))
   refine ⟨W4,hrun4,⟨?_,?_,?_,h4,hav,fun k hk=>Nat.lt_of_lt_of_le (hlt k hk) (Nat.le_trans hg.size (Nat.le_trans hg3.size hg4.size)),h5,?_,?_⟩,hs4,hold⟩
   · refine h1.trans ⟨hg4.os.trans (hg3.os.trans hg.os),hg4.tape.trans (hg3.tape.trans hg.tape),hg4.output.trans (hg3.output.trans hg.output),Nat.le_trans hg.size (Nat.le_trans hg3.size hg4.size),fun k hk=>hold k (Nat.lt_of_lt_of_le hk h1.size) (by omega) (fun e=>by have:=(World.ownsRow.lt hr1 k e).1;omega)⟩
   · exact (hold vt h2.lt h5.2.1 (fun e=>hr2 vt e hav.1)).trans h2
   · exact (hold vb h3.lt h5.2.2.2.1 (fun e=>hr2 vb e hav.2.1)).trans h3
   · exact ⟨ft,(t1.of_block (hold tm t1.lt h5.2.2.2.2 (fun e=>hr2 tm e hav.2.2.1))).mono (by omega),t2⟩
   · refine ⟨_,hM4,fun a ha=>?_,fun a a' v1 v2 g ha ha' e1 e2 g1 g2=>?_⟩
     · rw [inb_app]
       by_cases e:a=lowP 0 c.at
       · subst e
         rw [if_pos hi0,putV_same]
         refine ⟨fun h=>by simp at h,fun _=>⟨v',rfl,?_,hnb⟩⟩
         rw [List.length_append,List.length_singleton,show ccells (inb l (lowP 0 c.at)++[c])=ccells (inb l (lowP 0 c.at))++c.cells by unfold ccells;rw [List.flatMap_append];simp]
         exact World.ownsRow.kept hrow hg4 (by
          cases hv:v'.ownBlock with
          | none=>exact .inl rfl
          | some g=>exact .inr (fun e=>hnb g hv (by injection e with e;exact e ▸ hav.2.2.2)))
       · rw [if_neg (fun hi=>e ((low_eq ha).2 hi)),List.append_nil,putV_other]
         · obtain ⟨r1,r2⟩:=b2 a ha
           refine ⟨r1,fun hn=>?_⟩
           obtain ⟨v,q1,q2,q3⟩:=r2 hn
           refine ⟨v,q1,?_,q3⟩
           refine ownsRow_same q2 fun g hgv=>hold g (World.ownsRow.lt q2 g hgv).2 (fun e0=>q3 g hgv (e0 ▸ hav.2.2.2)) (fun e0=>e (hr3 g e0 a v ha q1 hgv))
         · intro ek
           obtain ⟨x,y,z,-⟩:=cubeV_inj ek
           apply e
           cases a;cases hq:lowP 0 c.at
           rw [hq] at x y z
           simp only at x y z
           rw [x,y,z]
     · have key : ∀ a1 a2 u1 u2,Tr.Al 0 a1→Tr.Al 0 a2→putV fb (cubeV (lowP 0 c.at).x (lowP 0 c.at).y (lowP 0 c.at).z 2) v' (cubeV a1.x a1.y a1.z 2)=some u1→putV fb (cubeV (lowP 0 c.at).x (lowP 0 c.at).y (lowP 0 c.at).z 2) v' (cubeV a2.x a2.y a2.z 2)=some u2→u1.ownBlock=some g→u2.ownBlock=some g→a1=lowP 0 c.at→a2=lowP 0 c.at:=by
        intro a1 a2 u1 u2 ha1 ha2 e1 e2 g1 g2 h
        subst h
        refine Classical.byContradiction fun hne=>?_
        rw [putV_same] at e1
        obtain rfl:=Option.some.inj e1
        rw [putV_other fb v' (fun ek=>hne (by
         obtain ⟨x,y,z,-⟩:=cubeV_inj ek
         cases a2;cases hq:lowP 0 c.at
         rw [hq] at x y z
         simp only at x y z
         rw [x,y,z]))] at e2
        have hin:inb l a2 ≠ []:=fun h0=>by rw [(b2 a2 ha2).1 h0] at e2;cases e2
        obtain ⟨v,q1,q2,q3⟩:=(b2 a2 ha2).2 hin
        rw [q1] at e2
        obtain rfl:=Option.some.inj e2
        rcases hat with e | e
        · exact hne (hr3 g (e.symm.trans g1) a2 _ ha2 q1 g2)
        · rw [e] at g1
          obtain rfl:=Option.some.inj g1
          have:=(World.ownsRow.lt q2 _ g2).2
          omega
       by_cases h1':a=lowP 0 c.at
       · exact h1'.trans (key a a' v1 v2 ha ha' e1 e2 g1 g2 h1').symm
       · by_cases h2':a'=lowP 0 c.at
         · exact (key a' a v2 v1 ha' ha e2 e1 g2 g1 h2').trans h2'.symm
         · have ne : ∀ q,Tr.Al 0 q→q ≠ lowP 0 c.at→cubeV q.x q.y q.z 2 ≠ cubeV (lowP 0 c.at).x (lowP 0 c.at).y (lowP 0 c.at).z 2:=fun q _ hne ek=>hne (by
            obtain ⟨x,y,z,-⟩:=cubeV_inj ek
            cases q;cases hq:lowP 0 c.at
            rw [hq] at x y z
            simp only at x y z
            rw [x,y,z])
           rw [putV_other fb v' (ne a ha h1')] at e1
           rw [putV_other fb v' (ne a' ha' h2')] at e2
           exact b3 a a' v1 v2 g ha ha' e1 e2 g1 g2
end
end Go.Proofs.YtfcbajmjaifjlaaGreat
