/- Tbr, Tbp, Tfe, Tfb, Tgf, Mpv: joined by program, for one claim. -/
import Derived.Test.YtfcbajmjaifjlaaGreatDoorM17
import Derived.WideKeyEntry
set_option maxHeartbeats 1000000
set_option maxRecDepth 100000
set_option linter.unusedVariables false
set_option linter.unusedSimpArgs false
namespace Go.Proofs.YtfcbajmjaifjlaaGreatDoor
section
open Go.RowKit Go.Sort Go.Maps
open Oct
theorem copied {w:World} {g Bd n cap:Nat} {xs zs:List Int} {cur:List Value} (h1:w.heap[g]? = some (.cells cur.toArray 3 (0,0))) (h2:cur.length=cap) (h4:n≤cap) (h5:cap≤maxLen) (h6:Bd≤g) (hz:zs.length=n) :
 Own (w.setRow g (zs.map (Value.int .i64)++cur.drop zs.length).toArray) Bd 3 .i64 (.slice (some ⟨g,0,none⟩) n cap) zs∧Keeps (fun k=>k<Bd) w (w.setRow g (zs.map (Value.int .i64)++cur.drop zs.length).toArray):=by
 refine ⟨Own.mk' (cur:=zs.map (Value.int .i64)++cur.drop n) ?_ ?_ ?_ h4 h5 h6 hz.symm,⟨rfl,rfl,rfl,by simp [World.setRow],fun k hk _=>setRow_other w g k _ (by omega)⟩⟩
 · rw [setRow_heap w g _ _ 3 _ h1,hz]
 · simp;omega
 · rw [List.take_append_of_le_length (by simp;omega),List.take_of_length_le (by simp;omega)]
theorem zDX (zs:List Int) : ∀ v∈zs.map (Value.int .i64),v.oneCell'=true:=by
 intro v hv;obtain ⟨x,_,rfl⟩:=List.mem_map.1 hv;rfl
theorem zDQ {w:World} {b off:Nat} {zs:List Int} (h:Sl w .i64 (some ⟨b,off,none⟩) zs) : ∀ j v,(zs.map (Value.int .i64))[j]? = some v→w.cell? ((⟨b,off,none⟩:Addr).add j)=some v:=by
 intro j v hj;rw [List.getElem?_map] at hj;cases hz:zs[j]? with
 | none=>rw [hz] at hj;cases hj
 | some x =>
   rw [hz] at hj;obtain rfl:=Option.some.inj hj;obtain ⟨b',off',e,hc⟩:=h j x hz;injection e with e;injection e with e1 e2;subst e1 e2
   have e3:(⟨b,off,none⟩:Addr).add j=⟨b,off+j,none⟩:=by
    by_cases hj:j=0
    · subst hj;simp [Addr.add]
    · simp [Addr.add,hj]
   rw [e3];exact hc
theorem zIN (ax ay az:Int) (hx:0≤ax∧ax≤16384) (hy:0≤ay∧ay≤16384) (hz:0≤az∧az≤16384) (gb gc g Bd cap:Nat) (a b c d e f cell:Int) (xs:List Int) (hl:xs.length=64) (w:World) (kb:Bk w gb #[a,b,c,d,e,f] 25) (kc:Bk w gc #[cell] 3) (ho:Own w Bd 3 .i64 (.slice (some ⟨g,0,none⟩) xs.length cap) xs) :
 Calls Tryz.prog 67 #[zH ax ay az 2,.slice (some ⟨g,0,none⟩) xs.length cap,.pointer (some ⟨gb,0,none⟩),.pointer (some ⟨gc,0,none⟩)] w fun e' w'=>e' = .returned (.tuple #[])∧Own w' Bd 3 .i64 (.slice (some ⟨g,0,none⟩) xs.length cap) (zAc ⟨⟨ax,ay,az⟩,⟨ax+4,ay+4,az+4⟩⟩ ⟨⟨a,b,c⟩,⟨d,e,f⟩⟩ xs (List.replicate (zU ⟨⟨a,b,c⟩,⟨d,e,f⟩⟩).toNat cell))∧Keeps (fun k=>k<Bd) w w':=by
 have hbox:=Bx.mk (fun W=>zBe 2 (by omega) ax ay az 4 (by decide) (by omega) (by omega) (by omega) W)
 rw [show ((2:Nat):Int)=2 from rfl] at hbox;have hSA:Small ⟨⟨ax,ay,az⟩,⟨ax+4,ay+4,az+4⟩⟩ 1048575:=⟨by simp only [];omega,by simp only [];omega,by simp only [];omega,by simp only [];omega,by simp only [];omega,by simp only [];omega⟩
 have hxl:xs.length=(zU ⟨⟨ax,ay,az⟩,⟨ax+4,ay+4,az+4⟩⟩).toNat:=by rw [hl,(zIb ax ay az).2.2];rfl
 have hg:=Bx.mk (fun W h=>zFo ax ay az (ax+4) (ay+4) (az+4) a b c d e f cell (some ⟨g,0,none⟩) cap xs W hSA hxl (by omega) (by omega) h)
 unfold zIq at hg;have hzl:(zAc ⟨⟨ax,ay,az⟩,⟨ax+4,ay+4,az+4⟩⟩ ⟨⟨a,b,c⟩,⟨d,e,f⟩⟩ xs (List.replicate (zU ⟨⟨a,b,c⟩,⟨d,e,f⟩⟩).toNat cell)).length=64:=by rw [zAh,←hxl,hl]
 have Hzl:=Bx.mk hzl;generalize (zAc ⟨⟨ax,ay,az⟩,⟨ax+4,ay+4,az+4⟩⟩ ⟨⟨a,b,c⟩,⟨d,e,f⟩⟩ xs (List.replicate (zU ⟨⟨a,b,c⟩,⟨d,e,f⟩⟩).toNat cell))=zs at *;have HL:=Bx.mk hl;clear hl;clear hSA hxl hx hy hz hzl;go_enter Tryz.func67,Tryz.ntmps67;go_upto_region 1 with fail;generalize hW:World.alloc w _=W;have hB:=bl1 hW;have kp:Bk W (w.heap.size) #[ax,ay,az,(2:Int)] 52:=bk0 hW;clear hW;have KP:=Bx.mk kp;have KB:=Bx.mk (kb.later hB);have KC:=Bx.mk (kc.later hB);have HO:=Bx.mk (ho.below hB);have HB:=Bx.mk hB;have hgl:=(ho.lt g rfl);have hWs:=hB.size;clear kp kb kc ho hB
 refine zAH 8 (fun i v w'=>match i with
  | 0=>v=zH ax ay az 2
  | 1=>v = .agg #[ax,ay,az,.int .i64 (ax+4),.int .i64 (ay+4),.int .i64 (az+4)]
  | 2=>v = .slice (some ⟨g,0,none⟩) xs.length cap
  | 3=>v = .agg #[ax,ay,az,.int .i64 (ax+4),.int .i64 (ay+4),.int .i64 (az+4),.slice (some ⟨g,0,none⟩) xs.length cap]
  | 4=>v = .agg #[a,b,c,d,e,f]
  | 5=>v = .int .i64 cell
  | 6 => ∃ pa pc,v = .agg #[ax,ay,az,.int .i64 (ax+4),.int .i64 (ay+4),.int .i64 (az+4),.slice pa xs.length pc]∧Own w' W.heap.size 3 .i64 (.slice pa xs.length pc) zs
  | _ => ∃ g2,v = .pointer (some ⟨g2,0,none⟩)∧W.heap.size≤g2∧Bk w' g2 #[(0:Int),(0:Int),(0:Int),(0:Int),(0:Int),(0:Int),.slice none 0 0] 28) (by kernel_rfl) (by kernel_rfl) 18 (by kernel_rfl) (by rfl) ?_ ?_ ?_
 · intro i hi v u1 u2 hb h
   match i,hi with
   | 0,_=>exact h
   | 1,_=>exact h
   | 2,_=>exact h
   | 3,_=>exact h
   | 4,_=>exact h
   | 5,_=>exact h
   | 6,_=>obtain ⟨pa,pc,h1,h2⟩:=h;exact ⟨pa,pc,h1,h2.below hb⟩
   | 7,_=>obtain ⟨g2,h1,h2,h3⟩:=h;exact ⟨g2,h1,h2,h3.later hb⟩
 · intro i o hi ho ρ w1 hb hc1 hc2 hc3 hk
   match i,hi with
   | 0, _ =>
     obtain rfl:=Option.some.inj ho;have h2:ρ (.tmp 4) = .pointer (some ⟨w.heap.size,0,none⟩):=hk 4 (by simp [Op.operands])
     have k1:=KP.out.later hb;obtain ⟨c0,c1,c2,c3⟩:=k1.c4;clear hk hb hbox hg;go_simp;exact Below.refl _ _
   | 1, _ =>
     obtain rfl:=Option.some.inj ho;have h2:ρ (.tmp 7)=zH ax ay az 2:=hk 7 (by simp [Op.operands,Call.operands])
     have h4:=hbox.out w1;have H4:=Bx.mk h4;clear hk hb h4 hbox hg;go_simp
     all_goals exact H4.out
   | 2, _ =>
     obtain rfl:=Option.some.inj ho;have h2:ρ (.tmp 1) = .slice (some ⟨g,0,none⟩) xs.length cap:=hk 1 (by simp [Op.operands])
     clear hk hb hbox hg;go_simp;exact Below.refl _ _
   | 3, _ =>
     obtain rfl:=Option.some.inj ho;have h2:ρ (.tmp 8) = .agg #[ax,ay,az,.int .i64 (ax+4),.int .i64 (ay+4),.int .i64 (az+4)]:=hk 8 (by simp [Op.operands])
     have h3:ρ (.tmp 9) = .slice (some ⟨g,0,none⟩) xs.length cap:=hk 9 (by simp [Op.operands])
     clear hk hb hbox hg;go_simp;exact Below.refl _ _
   | 4, _ =>
     obtain rfl:=Option.some.inj ho;have h2:ρ (.tmp 2) = .pointer (some ⟨gb,0,none⟩):=hk 2 (by simp [Op.operands])
     have k1:=KB.out.later hb;obtain ⟨c0,c1,c2,c3,c4,c5⟩:=k1.c6;clear hk hb hbox hg;go_simp;exact Below.refl _ _
   | 5, _ =>
     obtain rfl:=Option.some.inj ho;have h2:ρ (.tmp 3) = .pointer (some ⟨gc,0,none⟩):=hk 3 (by simp [Op.operands])
     have k1:=KC.out.later hb;have c0:=k1.cell 0 rfl;clear hk hb hbox hg;go_simp;exact Below.refl _ _
   | 6, _ =>
     obtain rfl:=Option.some.inj ho;have h2:ρ (.tmp 10) = .agg #[ax,ay,az,.int .i64 (ax+4),.int .i64 (ay+4),.int .i64 (az+4),.slice (some ⟨g,0,none⟩) xs.length cap]:=hk 10 (by simp [Op.operands,Call.operands])
     have h3:ρ (.tmp 11) = .agg #[a,b,c,d,e,f]:=hk 11 (by simp [Op.operands,Call.operands])
     have h5:ρ (.tmp 12) = .int .i64 cell:=hk 12 (by simp [Op.operands,Call.operands])
     have h4:=(hg.out w1 (by obtain ⟨a1,c1,e1,h1⟩:=(HO.out.below hb).form;injection e1 with e1 _ _;subst e1;exact h1)).mono (R':=fun e' w'' => ∃ v,e' = .returned v∧Below w1.heap.size w1 w'' ∧ ∃ pa pc,v = .agg #[ax,ay,az,.int .i64 (ax+4),.int .i64 (ay+4),.int .i64 (az+4),.slice pa xs.length pc]∧Own w'' W.heap.size 3 .i64 (.slice pa xs.length pc) zs) (fun e' w'' ⟨pa,pc,x,_,y,z⟩=>⟨_,x,z,pa,pc,rfl,y.base hb.size⟩)
     have H4:=Bx.mk h4;clear hk hb h4 hbox hg;go_simp
     all_goals exact H4.out
   | 7, _ =>
     obtain rfl:=Option.some.inj ho;have hbs:=hb.size;have hnew:Bk (w1.alloc (.cells #[(0:Int),(0:Int),(0:Int),(0:Int),(0:Int),(0:Int),.slice none 0 0] 28)) w1.heap.size #[(0:Int),(0:Int),(0:Int),(0:Int),(0:Int),(0:Int),.slice none 0 0] 28:=Bk.new _ _ _;have Hn:=Bx.mk hnew;clear hk hb hbox hg hnew;go_simp;exact ⟨(Below.refl _ _).alloc (Nat.le_refl _) _,Hn.out⟩
 · intro vs W1 hlen hb hR
   match vs,hlen with
   | [v0, v1, v2, v3, v4, v5, v6, v7], _ =>
     have r0:v0=zH ax ay az 2:=hR 0 v0 rfl;have r1:v1 = .agg #[ax,ay,az,.int .i64 (ax+4),.int .i64 (ay+4),.int .i64 (az+4)]:=hR 1 v1 rfl;have r2:v2 = .slice (some ⟨g,0,none⟩) xs.length cap:=hR 2 v2 rfl;have r3:v3 = .agg #[ax,ay,az,.int .i64 (ax+4),.int .i64 (ay+4),.int .i64 (az+4),.slice (some ⟨g,0,none⟩) xs.length cap]:=hR 3 v3 rfl;have r4:v4 = .agg #[a,b,c,d,e,f]:=hR 4 v4 rfl;have r5:v5 = .int .i64 cell:=hR 5 v5 rfl;obtain ⟨pa,pc,r6,hown⟩ : ∃ pa pc,v6 = .agg #[ax,ay,az,.int .i64 (ax+4),.int .i64 (ay+4),.int .i64 (az+4),.slice pa xs.length pc]∧Own W1 W.heap.size 3 .i64 (.slice pa xs.length pc) zs:=hR 6 v6 rfl;obtain ⟨g2,r7,hg2,kg⟩ : ∃ g2,v7 = .pointer (some ⟨g2,0,none⟩)∧W.heap.size≤g2∧Bk W1 g2 #[(0:Int),(0:Int),(0:Int),(0:Int),(0:Int),(0:Int),.slice none 0 0] 28:=hR 7 v7 rfl;subst r0 r1 r2 r3 r4 r5 r6 r7;clear hR hbox hg;obtain ⟨g3,c3,hv3,-,-,-,-,-⟩:=hown.at (by rw [Hzl.out];decide)
     injection hv3 with e1 e2 e3;subst e1;clear e2 e3
     have hne:g3 ≠ g2:=fun e=>by
      obtain ⟨cur3,q1,-⟩:=hown.raw;rw [e] at q1;have q2:W1.heap[g2]? = _:=kg;rw [q1] at q2;injection q2 with q2;injection q2 with _ q2;exact absurd q2 (by decide)
     have Hown:=Bx.mk hown;have Hb:=Bx.mk hb;clear hown hb;have cg0:=kg.cell 0 rfl;have fg0:=kg.frozen 0;have cg1:=kg.cell 1 rfl;have fg1:=kg.frozen 1;have cg2:=kg.cell 2 rfl;have fg2:=kg.frozen 2;have cg3:=kg.cell 3 rfl;have fg3:=kg.frozen 3;have cg4:=kg.cell 4 rfl;have fg4:=kg.frozen 4;have cg5:=kg.cell 5 rfl;have fg5:=kg.frozen 5;have cg6:=kg.cell 6 rfl;have fg6:=kg.frozen 6;simp only [zAk,List.take_succ_cons,List.take_zero,List.drop_succ_cons,List.drop_zero,List.map_cons,List.map_nil,List.zip_cons_cons,List.zip_nil_right,List.foldl_cons,List.foldl_nil];go_upto_region 2 with fail;have kg5:=kg.put7 (.int .i64 ax) (.int .i64 ay) (.int .i64 az) (.int .i64 (ax+4)) (.int .i64 (ay+4)) (.int .i64 (az+4)) (.slice (some ⟨g3,0,none⟩) xs.length pc);have hgr:W1.grownBy _ (some g2):=zC (zC (zC (zC (zC (zC (zC (World.grownBy.refl W1 (some g2)) 0 (.int .i64 ax)) 1 (.int .i64 ay)) 2 (.int .i64 az)) 3 (.int .i64 (ax+4))) 4 (.int .i64 (ay+4))) 5 (.int .i64 (az+4))) 6 (.slice (some ⟨g3,0,none⟩) xs.length pc);clear cg0 fg0 cg1 fg1 cg2 fg2 cg3 fg3 cg4 fg4 cg5 fg5 cg6 fg6 kg;generalize World.setCell _ ⟨g2,6,none⟩ _=W5 at *;have hg2w:Bd≤g2∧g ≠ g2:=by omega
     have hown5:Own W5 W.heap.size 3 .i64 (.slice (some ⟨g3,0,none⟩) xs.length pc) zs:=World.ownsRow.kept Hown.out hgr (.inr (fun e=>by injection e with e;exact hne e))
     have ho5:Own W5 Bd 3 .i64 (.slice (some ⟨g,0,none⟩) xs.length cap) xs:=World.ownsRow.kept (HO.out.below Hb.out) hgr (.inr (fun e=>by injection e with e;exact hg2w.2 e))
     obtain ⟨a3,c3',hv3,hsl3⟩:=hown5.form;injection hv3 with e1 e2 e3;subst e1;clear e2 e3;obtain ⟨cur,q1,q2,q3,q4,q5,q6,q7⟩:=ho5.raw;have HK:=Bx.mk ((((Keeps.below HB.out).trans (Keeps.below Hb.out)).trans (Keeps.grown hgr (fun k e hk=>by injection e with e;subst e;have:g2<Bd:=hk;omega))):Keeps (fun k=>k<Bd) w W5)
     have hcop:=Bx.mk (copied q1 q2 q4 q5 q6 (zs:=zs) (by rw [Hzl.out,HL.out]) (xs:=xs))
     have cc6:W5.cell? ⟨g2,6,none⟩=some (.slice (some ⟨g3,0,none⟩) xs.length pc):=kg5.cell 6 rfl;have Q1:=Bx.mk q1;have HSL:=Bx.mk hsl3;have hn1:(zs.map (Value.int .i64)).length=Nat.min xs.length xs.length:=by rw [List.length_map,Hzl.out,HL.out];rfl
     have hfit:0+(zs.map (Value.int .i64)).length≤cur.toArray.size:=by rw [List.length_map,Hzl.out,List.size_toArray,q2];have:=HL.out;omega
     have HN1:=Bx.mk hn1;have HF1:=Bx.mk hfit;clear hown5 ho5 hsl3 kg5 hgr q1 q3 Hown q2 q4 q5 q6 q7 hn1 hfit hg2w hgl hWs hg2 hne;go_wp2_with (refine wpList_copy_own rfl (.tmp 14) (.tmp 16) 26 26 rfl 3 Tryz.underlying26 (by kernel_rfl) g 0 xs.length cap ⟨g3,0,none⟩ xs.length pc rfl rfl cur.toArray 3 Q1.out (zs.map (Value.int .i64)) HN1.out (zDQ HSL.out) HF1.out (zDX zs) ?_)
     go_end0
     exact ⟨rfl,hcop.out.1,HK.out.trans hcop.out.2⟩
theorem zGN (ax ay az:Int) (hx:0≤ax∧ax≤16384) (hy:0≤ay∧ay≤16384) (hz:0≤az∧az≤16384) (gb g Bd cap:Nat) (a b c d e f:Int) (ha:Option Addr) (hcp:Nat) (xs ys:List Int) (hl:xs.length=64) (hSB:Small ⟨⟨a,b,c⟩,⟨d,e,f⟩⟩ 1048575) (hyl:ys.length=(zU ⟨⟨a,b,c⟩,⟨d,e,f⟩⟩).toNat) (hY:ys.length≤4194304) (hcap:ys.length≤hcp) (w:World) (kb:Bk w gb #[a,b,c,d,e,f,.slice ha ys.length hcp] 28) (hs:Sl w .i64 ha ys) (ho:Own w Bd 3 .i64 (.slice (some ⟨g,0,none⟩) xs.length cap) xs) :
 Calls Tryz.prog 82 #[zH ax ay az 2,.slice (some ⟨g,0,none⟩) xs.length cap,.pointer (some ⟨gb,0,none⟩)] w fun e' w'=>e' = .returned (.tuple #[])∧Own w' Bd 3 .i64 (.slice (some ⟨g,0,none⟩) xs.length cap) (zAc ⟨⟨ax,ay,az⟩,⟨ax+4,ay+4,az+4⟩⟩ ⟨⟨a,b,c⟩,⟨d,e,f⟩⟩ xs ys)∧Keeps (fun k=>k<Bd) w w':=by
 have hbox:=Bx.mk (fun W=>zBe 2 (by omega) ax ay az 4 (by decide) (by omega) (by omega) (by omega) W)
 rw [show ((2:Nat):Int)=2 from rfl] at hbox;have hSA:Small ⟨⟨ax,ay,az⟩,⟨ax+4,ay+4,az+4⟩⟩ 1048575:=⟨by simp only [];omega,by simp only [];omega,by simp only [];omega,by simp only [];omega,by simp only [];omega,by simp only [];omega⟩
 have hxl:xs.length=(zU ⟨⟨ax,ay,az⟩,⟨ax+4,ay+4,az+4⟩⟩).toNat:=by rw [hl,(zIb ax ay az).2.2];rfl
 have hg:=Bx.mk (fun W h1 h2=>zFR ax ay az (ax+4) (ay+4) (az+4) a b c d e f (some ⟨g,0,none⟩) ha cap hcp xs ys W hSA hSB hxl hyl (by omega) (by omega) hY hcap h1 h2)
 unfold zIq at hg;have hzl:(zAc ⟨⟨ax,ay,az⟩,⟨ax+4,ay+4,az+4⟩⟩ ⟨⟨a,b,c⟩,⟨d,e,f⟩⟩ xs ys).length=64:=by rw [zAh,←hxl,hl]
 have Hzl:=Bx.mk hzl;generalize (zAc ⟨⟨ax,ay,az⟩,⟨ax+4,ay+4,az+4⟩⟩ ⟨⟨a,b,c⟩,⟨d,e,f⟩⟩ xs ys)=zs at *;have HL:=Bx.mk hl;clear hl;clear hSA hxl hx hy hz hzl hSB hyl hY hcap;go_enter Tryz.func82,Tryz.ntmps82;go_upto_region 1 with fail;generalize hW:World.alloc w _=W;have hB:=bl1 hW;have kp:Bk W (w.heap.size) #[ax,ay,az,(2:Int)] 52:=bk0 hW;clear hW;have KP:=Bx.mk kp;have KB:=Bx.mk (kb.later hB);have HS:=Bx.mk (hs.below hB);have HO:=Bx.mk (ho.below hB);have HB:=Bx.mk hB;have hgl:=(ho.lt g rfl);have hWs:=hB.size;clear kp kb hs ho hB
 refine zAH 7 (fun i v w'=>match i with
  | 0=>v=zH ax ay az 2
  | 1=>v = .agg #[ax,ay,az,.int .i64 (ax+4),.int .i64 (ay+4),.int .i64 (az+4)]
  | 2=>v = .slice (some ⟨g,0,none⟩) xs.length cap
  | 3=>v = .agg #[ax,ay,az,.int .i64 (ax+4),.int .i64 (ay+4),.int .i64 (az+4),.slice (some ⟨g,0,none⟩) xs.length cap]
  | 4=>v = .agg #[a,b,c,d,e,f,.slice ha ys.length hcp]
  | 5 => ∃ pa pc,v = .agg #[ax,ay,az,.int .i64 (ax+4),.int .i64 (ay+4),.int .i64 (az+4),.slice pa xs.length pc]∧Own w' W.heap.size 3 .i64 (.slice pa xs.length pc) zs
  | _ => ∃ g2,v = .pointer (some ⟨g2,0,none⟩)∧W.heap.size≤g2∧Bk w' g2 #[(0:Int),(0:Int),(0:Int),(0:Int),(0:Int),(0:Int),.slice none 0 0] 28) (by kernel_rfl) (by kernel_rfl) 16 (by kernel_rfl) (by rfl) ?_ ?_ ?_
 · intro i hi v u1 u2 hb h
   match i,hi with
   | 0,_=>exact h
   | 1,_=>exact h
   | 2,_=>exact h
   | 3,_=>exact h
   | 4,_=>exact h
   | 5,_=>obtain ⟨pa,pc,h1,h2⟩:=h;exact ⟨pa,pc,h1,h2.below hb⟩
   | 6,_=>obtain ⟨g2,h1,h2,h3⟩:=h;exact ⟨g2,h1,h2,h3.later hb⟩
 · intro i o hi ho ρ w1 hb hc1 hc2 hc3 hk
   match i,hi with
   | 0, _ =>
     obtain rfl:=Option.some.inj ho;have h2:ρ (.tmp 3) = .pointer (some ⟨w.heap.size,0,none⟩):=hk 3 (by simp [Op.operands])
     have k1:=KP.out.later hb;obtain ⟨c0,c1,c2,c3⟩:=k1.c4;clear hk hb hbox hg;go_simp;exact Below.refl _ _
   | 1, _ =>
     obtain rfl:=Option.some.inj ho;have h2:ρ (.tmp 6)=zH ax ay az 2:=hk 6 (by simp [Op.operands,Call.operands])
     have h4:=hbox.out w1;have H4:=Bx.mk h4;clear hk hb h4 hbox hg;go_simp
     all_goals exact H4.out
   | 2, _ =>
     obtain rfl:=Option.some.inj ho;have h2:ρ (.tmp 1) = .slice (some ⟨g,0,none⟩) xs.length cap:=hk 1 (by simp [Op.operands])
     clear hk hb hbox hg;go_simp;exact Below.refl _ _
   | 3, _ =>
     obtain rfl:=Option.some.inj ho;have h2:ρ (.tmp 7) = .agg #[ax,ay,az,.int .i64 (ax+4),.int .i64 (ay+4),.int .i64 (az+4)]:=hk 7 (by simp [Op.operands])
     have h3:ρ (.tmp 8) = .slice (some ⟨g,0,none⟩) xs.length cap:=hk 8 (by simp [Op.operands])
     clear hk hb hbox hg;go_simp;exact Below.refl _ _
   | 4, _ =>
     obtain rfl:=Option.some.inj ho;have h2:ρ (.tmp 2) = .pointer (some ⟨gb,0,none⟩):=hk 2 (by simp [Op.operands])
     have k1:=KB.out.later hb;obtain ⟨c0,c1,c2,c3,c4,c5,c6⟩:=k1.c7;clear hk hb hbox hg;go_simp;exact Below.refl _ _
   | 5, _ =>
     obtain rfl:=Option.some.inj ho;have h2:ρ (.tmp 9) = .agg #[ax,ay,az,.int .i64 (ax+4),.int .i64 (ay+4),.int .i64 (az+4),.slice (some ⟨g,0,none⟩) xs.length cap]:=hk 9 (by simp [Op.operands,Call.operands])
     have h3:ρ (.tmp 10) = .agg #[a,b,c,d,e,f,.slice ha ys.length hcp]:=hk 10 (by simp [Op.operands,Call.operands])
     have h4:=(hg.out w1 (HS.out.below hb) (by obtain ⟨a1,c1,e1,h1⟩:=(HO.out.below hb).form;injection e1 with e1 _ _;subst e1;exact h1)).mono (R':=fun e' w'' => ∃ v,e' = .returned v∧Below w1.heap.size w1 w'' ∧ ∃ pa pc,v = .agg #[ax,ay,az,.int .i64 (ax+4),.int .i64 (ay+4),.int .i64 (az+4),.slice pa xs.length pc]∧Own w'' W.heap.size 3 .i64 (.slice pa xs.length pc) zs) (fun e' w'' ⟨pa,pc,x,_,y,z⟩=>⟨_,x,z,pa,pc,rfl,y.base hb.size⟩)
     have H4:=Bx.mk h4;clear hk hb h4 hbox hg;go_simp
     all_goals exact H4.out
   | 6, _ =>
     obtain rfl:=Option.some.inj ho;have hbs:=hb.size;have hnew:Bk (w1.alloc (.cells #[(0:Int),(0:Int),(0:Int),(0:Int),(0:Int),(0:Int),.slice none 0 0] 28)) w1.heap.size #[(0:Int),(0:Int),(0:Int),(0:Int),(0:Int),(0:Int),.slice none 0 0] 28:=Bk.new _ _ _;have Hn:=Bx.mk hnew;clear hk hb hbox hg hnew;go_simp;exact ⟨(Below.refl _ _).alloc (Nat.le_refl _) _,Hn.out⟩
 · intro vs W1 hlen hb hR
   match vs,hlen with
   | [v0, v1, v2, v3, v4, v5, v6], _ =>
     have r0:v0=zH ax ay az 2:=hR 0 v0 rfl;have r1:v1 = .agg #[ax,ay,az,.int .i64 (ax+4),.int .i64 (ay+4),.int .i64 (az+4)]:=hR 1 v1 rfl;have r2:v2 = .slice (some ⟨g,0,none⟩) xs.length cap:=hR 2 v2 rfl;have r3:v3 = .agg #[ax,ay,az,.int .i64 (ax+4),.int .i64 (ay+4),.int .i64 (az+4),.slice (some ⟨g,0,none⟩) xs.length cap]:=hR 3 v3 rfl;have r4:v4 = .agg #[a,b,c,d,e,f,.slice ha ys.length hcp]:=hR 4 v4 rfl;obtain ⟨pa,pc,r5,hown⟩ : ∃ pa pc,v5 = .agg #[ax,ay,az,.int .i64 (ax+4),.int .i64 (ay+4),.int .i64 (az+4),.slice pa xs.length pc]∧Own W1 W.heap.size 3 .i64 (.slice pa xs.length pc) zs:=hR 5 v5 rfl;obtain ⟨g2,r6,hg2,kg⟩ : ∃ g2,v6 = .pointer (some ⟨g2,0,none⟩)∧W.heap.size≤g2∧Bk W1 g2 #[(0:Int),(0:Int),(0:Int),(0:Int),(0:Int),(0:Int),.slice none 0 0] 28:=hR 6 v6 rfl;subst r0 r1 r2 r3 r4 r5 r6;clear hR hbox hg;obtain ⟨g3,c3,hv3,-,-,-,-,-⟩:=hown.at (by rw [Hzl.out];decide)
     injection hv3 with e1 e2 e3;subst e1;clear e2 e3
     have hne:g3 ≠ g2:=fun e=>by
      obtain ⟨cur3,q1,-⟩:=hown.raw;rw [e] at q1;have q2:W1.heap[g2]? = _:=kg;rw [q1] at q2;injection q2 with q2;injection q2 with _ q2;exact absurd q2 (by decide)
     have Hown:=Bx.mk hown;have Hb:=Bx.mk hb;clear hown hb;have cg0:=kg.cell 0 rfl;have fg0:=kg.frozen 0;have cg1:=kg.cell 1 rfl;have fg1:=kg.frozen 1;have cg2:=kg.cell 2 rfl;have fg2:=kg.frozen 2;have cg3:=kg.cell 3 rfl;have fg3:=kg.frozen 3;have cg4:=kg.cell 4 rfl;have fg4:=kg.frozen 4;have cg5:=kg.cell 5 rfl;have fg5:=kg.frozen 5;have cg6:=kg.cell 6 rfl;have fg6:=kg.frozen 6;simp only [zAk,List.take_succ_cons,List.take_zero,List.drop_succ_cons,List.drop_zero,List.map_cons,List.map_nil,List.zip_cons_cons,List.zip_nil_right,List.foldl_cons,List.foldl_nil];go_upto_region 2 with fail;have kg5:=kg.put7 (.int .i64 ax) (.int .i64 ay) (.int .i64 az) (.int .i64 (ax+4)) (.int .i64 (ay+4)) (.int .i64 (az+4)) (.slice (some ⟨g3,0,none⟩) xs.length pc);have hgr:W1.grownBy _ (some g2):=zC (zC (zC (zC (zC (zC (zC (World.grownBy.refl W1 (some g2)) 0 (.int .i64 ax)) 1 (.int .i64 ay)) 2 (.int .i64 az)) 3 (.int .i64 (ax+4))) 4 (.int .i64 (ay+4))) 5 (.int .i64 (az+4))) 6 (.slice (some ⟨g3,0,none⟩) xs.length pc);clear cg0 fg0 cg1 fg1 cg2 fg2 cg3 fg3 cg4 fg4 cg5 fg5 cg6 fg6 kg;generalize World.setCell _ ⟨g2,6,none⟩ _=W5 at *;have hg2w:Bd≤g2∧g ≠ g2:=by omega
     have hown5:Own W5 W.heap.size 3 .i64 (.slice (some ⟨g3,0,none⟩) xs.length pc) zs:=World.ownsRow.kept Hown.out hgr (.inr (fun e=>by injection e with e;exact hne e))
     have ho5:Own W5 Bd 3 .i64 (.slice (some ⟨g,0,none⟩) xs.length cap) xs:=World.ownsRow.kept (HO.out.below Hb.out) hgr (.inr (fun e=>by injection e with e;exact hg2w.2 e))
     obtain ⟨a3,c3',hv3,hsl3⟩:=hown5.form;injection hv3 with e1 e2 e3;subst e1;clear e2 e3;obtain ⟨cur,q1,q2,q3,q4,q5,q6,q7⟩:=ho5.raw;have HK:=Bx.mk ((((Keeps.below HB.out).trans (Keeps.below Hb.out)).trans (Keeps.grown hgr (fun k e hk=>by injection e with e;subst e;have:g2<Bd:=hk;omega))):Keeps (fun k=>k<Bd) w W5)
     have hcop:=Bx.mk (copied q1 q2 q4 q5 q6 (zs:=zs) (by rw [Hzl.out,HL.out]) (xs:=xs))
     have cc6:W5.cell? ⟨g2,6,none⟩=some (.slice (some ⟨g3,0,none⟩) xs.length pc):=kg5.cell 6 rfl;have Q1:=Bx.mk q1;have HSL:=Bx.mk hsl3;have hn1:(zs.map (Value.int .i64)).length=Nat.min xs.length xs.length:=by rw [List.length_map,Hzl.out,HL.out];rfl
     have hfit:0+(zs.map (Value.int .i64)).length≤cur.toArray.size:=by rw [List.length_map,Hzl.out,List.size_toArray,q2];have:=HL.out;omega
     have HN1:=Bx.mk hn1;have HF1:=Bx.mk hfit;clear hown5 ho5 hsl3 kg5 hgr q1 q3 Hown q2 q4 q5 q6 q7 hn1 hfit hg2w hgl hWs hg2 hne;go_wp2_with (refine wpList_copy_own rfl (.tmp 12) (.tmp 14) 26 26 rfl 3 Tryz.underlying26 (by kernel_rfl) g 0 xs.length cap ⟨g3,0,none⟩ xs.length pc rfl rfl cur.toArray 3 Q1.out (zs.map (Value.int .i64)) HN1.out (zDQ HSL.out) HF1.out (zDX zs) ?_)
     go_end0
     exact ⟨rfl,hcop.out.1,HK.out.trans hcop.out.2⟩
abbrev zAs (a:Pt):Box:=⟨⟨a.x,a.y,a.z⟩,⟨a.x+4,a.y+4,a.z+4⟩⟩
theorem zAl (f:Pt→Int) (a:Pt):zz f a=zM (zAs a) f:=(zCo a.x a.y a.z f).symm
theorem zMZ {N:Nat} {a:Pt} (h:InT N 0 a) {p:Pt} (hp:inB p (zAs a)=true):inB p (zCq N)=true:=by
 have h1:=zX.1 hp;simp only [] at h1;obtain ⟨-,-,x,y,z⟩:=h;have e4:(2:Int) ^ (0+2)=4:=by decide
 rw [e4] at x y z;exact zX.2 ⟨by show (0:Int)≤_;omega,by show _<(2:Int) ^ (N+2);omega,by show (0:Int)≤_;omega,by show _<(2:Int) ^ (N+2);omega,by show (0:Int)≤_;omega,by show _<(2:Int) ^ (N+2);omega⟩
theorem zGM {N:Nat} {a:Pt} (h:InT N 0 a) (b:Box) (ys:List Int) (g:Pt→Int):zAc (zAs a) b (zz g a) ys=zz (zAd N b ys g) a:=by
 rw [zAl,zAl];refine zf fun p hp=>?_;unfold zAd;rw [zMZ h hp,Bool.and_true,zCN hp]
theorem zKU {b:Box} {c:Int} {p:Pt} (hp:inB p b=true):zF b (List.replicate (zU b).toNat c) p=c:=by
 unfold zF;rw [if_pos hp];have:=ze hp;rw [List.getD_eq_getElem?_getD,List.getElem?_replicate_of_lt (by omega)];rfl
theorem zIM {N:Nat} {a:Pt} (h:InT N 0 a) (b:Box) (c:Int) (g:Pt→Int):zAc (zAs a) b (zz g a) (List.replicate (zU b).toNat c)=zz (zBA N b c g) a:=by
 rw [zAl,zAl];refine zf fun p hp=>?_;unfold zBA;rw [zMZ h hp,Bool.and_true,zCN hp];by_cases hb:inB p b=true
 · rw [if_pos hb,if_pos hb,zKU hb]
 · rw [if_neg hb,if_neg hb]
theorem zJ5 {N:Nat} (hN:N≤12) (gb gs gc gk gd sb:Nat) (a b c d e f cell:Int) (hc:0≤cell∧cell≤255) (most:Int) (g:Pt→Int) :
 EditC [] (FillF gb gs gc gk gd) (FillP gb gs gc gk gd sb a b c d e f cell) sb most N g (zBA N ⟨⟨a,b,c⟩,⟨d,e,f⟩⟩ cell g) (fun _ _=>True) (fun _ _=>True) 65 67
  #[.pointer (some ⟨gb,0,none⟩),.pointer (some ⟨gs,0,none⟩),.pointer (some ⟨gc,0,none⟩),.pointer (some ⟨gk,0,none⟩)] #[.pointer (some ⟨gb,0,none⟩),.pointer (some ⟨gc,0,none⟩)] (.func (.func 67) #[] #[.pointer (some ⟨gb,0,none⟩),.pointer (some ⟨gc,0,none⟩)]) where
 vtop:=trivial
 vkid:=fun _ _ _ _ _ _ _=>trivial
 stays:=FillP.stays gb gs gc gk gd sb a b c d e f cell
 en:=enters_of Tryz.func65 rfl rfl
 eb:=fun _ _=>⟨rfl,enters_of Tryz.func67 rfl rfl⟩
 node:=fun W Far us n p _ _ hin _ hP hG ht hlen hFar hS=>zJ4 hN gb gs gc gk gd sb a b c d e f cell hc most g W Far us n p hin hP hG ht hlen hFar hS
 brick:=fun W B v p hin _ hP _ ho=>by
  obtain ⟨b1,b2,b3⟩:=hin.bd hN;obtain ⟨g1,cap,rfl,-,-,-,-,-⟩:=ho.at (by rw [zAG];decide)
  have h:=zIN p.x p.y p.z b1 b2 b3 gb gc g1 B cap a b c d e f cell (zz g p) (zAG _ _) W hP.kb hP.kc ho;rw [show (⟨⟨p.x,p.y,p.z⟩,⟨p.x+4,p.y+4,p.z+4⟩⟩:Box)=zAs p from rfl,zIM hin] at h;exact h
structure PasteP (gb gd:Nat) (a b c d e f:Int) (ha:Option Addr) (hcp:Nat) (ys:List Int) (w:World):Prop where
 kb:Bk w gb #[a,b,c,d,e,f,.slice ha ys.length hcp] 28
 kd:Bk w gd #[a,b,c,d,e,f] 25
 sl:Sl w .i64 ha ys
abbrev zMt (gb gd:Nat) (ha:Option Addr) (ys:List Int):Nat→Prop:=fun x=>x=gb∨x=gd∨(ys ≠ []∧ha.map (·.block)=some x)
theorem PasteP.stays (gb gd:Nat) (a b c d e f:Int) (ha:Option Addr) (hcp:Nat) (ys:List Int):zDv (zMt gb gd ha ys) (PasteP gb gd a b c d e f ha hcp ys):=fun x y hk h =>
 ⟨h.kb.keeps hk (.inl rfl),h.kd.keeps hk (.inr (.inl rfl)),h.sl.far hk (fun hn b hb=>.inr (.inr ⟨hn,hb⟩))⟩
theorem zH4 {N:Nat} (hN:N≤12) (gb gd sb:Nat) (a b c d e f:Int) (ha:Option Addr) (hcp:Nat) (ys:List Int) (hSB:Small ⟨⟨a,b,c⟩,⟨d,e,f⟩⟩ 1048575) (hyl:ys.length=(zU ⟨⟨a,b,c⟩,⟨d,e,f⟩⟩).toNat) (hY:ys.length≤4194304) (hcap:ys.length≤hcp) (most:Int) (g:Pt→Int) :
 EditC [] (zMt gb gd ha ys) (PasteP gb gd a b c d e f ha hcp ys) sb most N g (zAd N ⟨⟨a,b,c⟩,⟨d,e,f⟩⟩ ys g) (fun _ _=>True) (fun _ _=>True) 112 82
  #[.pointer (some ⟨gd,0,none⟩)] #[.pointer (some ⟨gb,0,none⟩)] (.func (.func 82) #[] #[.pointer (some ⟨gb,0,none⟩)]) where
 vtop:=trivial
 vkid:=fun _ _ _ _ _ _ _=>trivial
 stays:=PasteP.stays gb gd a b c d e f ha hcp ys
 en:=enters_of Tryz.func112 rfl rfl
 eb:=fun _ _=>⟨rfl,enters_of Tryz.func82 rfl rfl⟩
 node:=fun W Far us n p _ _ hin _ hP _ ht _ _ hS=>zH3 hN gd sb a b c d e f ys most g W Far us n p hin hP.kd ht hS
 brick:=fun W B v p hin _ hP _ ho=>by
  obtain ⟨b1,b2,b3⟩:=hin.bd hN;obtain ⟨g1,cap,rfl,-,-,-,-,-⟩:=ho.at (by rw [zAG];decide)
  have h:=zGN p.x p.y p.z b1 b2 b3 gb g1 B cap a b c d e f ha hcp (zz g p) ys (zAG _ _) hSB hyl hY hcap W hP.kb hP.sl ho;rw [show (⟨⟨p.x,p.y,p.z⟩,⟨p.x+4,p.y+4,p.z+4⟩⟩:Box)=zAs p from rfl,zGM hin] at h;exact h
theorem zBY (c:Int) (w:World) :
 Calls Tryz.prog 38 #[c] w fun e w'=>e = .returned (.bool (decide (0≤c∧c≤255)))∧w=w':=by
 go_enter Tryz.func38,Tryz.ntmps38;go_wp2
 all_goals
  go_ret;exact ⟨zK (by rw [Bool.eq_iff_iff];simp;omega),rfl⟩
theorem zF5 (a b c d e f:Int) (w:World) :
 Calls Tryz.prog 64 #[.agg #[a,b,c,d,e,f]] w fun e' w'=>e' = .returned (.func (.func 112) #[] #[.pointer (some ⟨w.heap.size,0,none⟩)])∧Bk w' w.heap.size #[a,b,c,d,e,f] 25∧Below w.heap.size w w':=by
 go_enter Tryz.func64,Tryz.ntmps64;go_wp2_with fail;go_ret;exact ⟨rfl,Bk.new _ _ _,(Below.refl _ _).alloc (Nat.le_refl _) _⟩
theorem Done.less {Far Far':Nat→Prop} {sb:Nat} {most:Int} {ts ts':List Tr} {t:Tr} {w w1 w':World} {e:Ending} (h:Done Far' sb most ts ts' t w1 e w') (hk:Keeps Far w w1) (hf : ∀ k,Far k→Far' k):Done Far sb most ts ts' t w e w':=by
 refine ⟨hk.trans (h.keeps.less hf),Nat.le_trans hk.size h.size,?_⟩;rcases h.way with ⟨h1,h2,h3⟩ | ⟨h1,h2,h3⟩
 · exact .inl ⟨h1,h2,h3.less hf⟩
 · exact .inr ⟨h1,h2,h3.less hf⟩
theorem zDf {N:Nat} (hN:N≤12) (sb:Nat) (a b c d e f cell:Int) (hc:0≤cell∧cell≤255) (most:Int) (g:Pt→Int) (hg : ∀ p,0≤g p∧g p≤255) (hg' : ∀ p,0≤zBA N ⟨⟨a,b,c⟩,⟨d,e,f⟩⟩ cell g p∧zBA N ⟨⟨a,b,c⟩,⟨d,e,f⟩⟩ cell g p≤255) (w:World) (Far:Nat→Prop) (ts:List Tr) (hG:Good ts) (ht:Tr.can g N ⟨0,0,0⟩∈ts) (hlen:(Tr.add (Tr.can (zBA N ⟨⟨a,b,c⟩,⟨d,e,f⟩⟩ cell g) N ⟨0,0,0⟩) ts).length≤4000000) (hFar : ∀ k,Far k→k<w.heap.size) (hS:StoreIs w Far sb most ts) :
 Calls Tryz.prog 21 #[.pointer (some ⟨sb,0,none⟩),(idT ts (Tr.can g N ⟨0,0,0⟩):Int),.int .i64 ((N:Int)+2),.agg #[a,b,c,d,e,f],cell] w (Done Far sb most ts (Tr.add (Tr.can (zBA N ⟨⟨a,b,c⟩,⟨d,e,f⟩⟩ cell g) N ⟨0,0,0⟩) ts) (Tr.can (zBA N ⟨⟨a,b,c⟩,⟨d,e,f⟩⟩ cell g) N ⟨0,0,0⟩) w):=by
 have hcell:=Bx.mk fun W=>zBY cell W;rw [show decide (0≤cell∧cell≤255)=true by simpa using hc] at hcell
 have hap:=Bx.mk fun W=>zF5 a b c d e f W;have hch:=Bx.mk fun gb gs gc gk gd W Far' h1 h2 h3 h4=>zCn hN (zJ5 hN gb gs gc gk gd sb a b c d e f cell hc most g) hg hg' W Far' h1 h2 ts List.nil_prefix hG ht hlen h3 h4;have HF:=Bx.mk hFar;have HS:=Bx.mk hS;clear hc hg hg' hG ht hlen hFar hS;generalize Tr.can (zBA N ⟨⟨a,b,c⟩,⟨d,e,f⟩⟩ cell g) N ⟨0,0,0⟩=T at *;go_enter Tryz.func21,Tryz.ntmps21;go_upto_region 1 with fail;generalize hW:World.alloc (World.alloc (World.alloc w _) _) _=W;have hSz:W.heap.size=w.heap.size+1+1+1:=by rw [←hW];simp
 have hB:=bl3 hW;have ks:Bk W (w.heap.size) #[.pointer (some ⟨sb,0,none⟩)] 33:=bk2 hW;have kb:Bk W (w.heap.size+1) #[a,b,c,d,e,f] 25:=bk1 hW;have kc:Bk W (w.heap.size+1+1) #[cell] 3:=bk0 hW;clear hW;have c0:=kc.cell 0 rfl;obtain ⟨b0,b1,b2,b3,b4,b5⟩:=kb.c6;go_wp2_with fail;refine (hcell.out _).mono ?_;rintro _ _ ⟨rfl,rfl⟩;go_wp2_with fail;refine (hap.out _).mono ?_;rintro _ w2 ⟨rfl,kd,hb⟩;replace ks:=ks.later hb;replace kb:=kb.later hb;replace kc:=kc.later hb;have cs : ∀ o,(w2.alloc o).cell? ⟨w.heap.size,0,none⟩=some (.pointer (some ⟨sb,0,none⟩)):=fun o=>(ks.alloc o).cell 0 rfl;clear c0 b0 b1 b2 b3 b4 b5;go_wp2_with fail;generalize hW5:World.alloc w2 _=W5;have hb5:Below w2.heap.size w2 W5:=by rw [←hW5];exact zW _ _
 have hs5:W5.heap.size=w2.heap.size+1:=by rw [←hW5];simp
 have kk:Bk W5 w2.heap.size #[.func (.func 112) #[] #[.pointer (some ⟨w.heap.size+1+1+1,0,none⟩)]] 87:=by rw [←hW5];exact Bk.new _ _ _
 have hbs:=hb.size;rw [hSz] at kd hbs;have hB5:=(hB.trans (hb.mono hB.size)).trans (hb5.mono (by omega))
 refine (hch.out (w.heap.size+1) w.heap.size (w.heap.size+1+1) w2.heap.size (w.heap.size+1+1+1) W5 (fun x=>Far x∨(w.heap.size≤x∧x<W5.heap.size)) ?_ ⟨kb.later hb5,ks.later hb5,kc.later hb5,kk,kd.later hb5⟩ ?_ ?_).mono ?_
 · intro k hk;right;have hd:=kd.lt;rcases hk with rfl | rfl | rfl | rfl | rfl <;> omega
 · intro k hk;rcases hk with hk | hk
   · exact Nat.lt_of_lt_of_le (HF.out k hk) hB5.size
   · exact hk.2
 · exact (HS.out.widen (Far':=fun x=>Far x∨(w.heap.size≤x∧x<W5.heap.size)) (fun k hk=>hk.imp id (fun h=>h.1))).later hB5
 · intro e' w' hd;have Hd:=Bx.mk (hd.less (Far:=Far) (Keeps.below hB5) (fun k hk=>.inl hk));obtain ⟨-,-,(⟨hf,rfl,hs⟩ | ⟨hf,rfl,hs⟩)⟩:=hd
   all_goals
    clear hf hs;go_wp2_with fail
    go_ret2
    exact Hd.out
theorem zL3 (a0 a1 a2 a3 b0 b1 b2 b3:Int) (w:World):(binOp .eql 52 (.agg #[a0,a1,a2,a3]) (.agg #[b0,b1,b2,b3])).run Tryz.prog w = .ok (.bool (decide (a0=b0∧a1=b1∧a2=b2∧a3=b3))) w:=by
 have h1 : Tryz.prog.stoodInHeld 52=false:=by kernel_rfl
 have h2 : Tryz.prog.stoodInHeld 23=false:=by kernel_rfl
 rw [run_eql_struct,run_equalIn_agg _ _ _ _ _ (by kernel_rfl) h1]
 go_simp;by_cases h3:a0=b0
 rotate_left
 · simp [h3]
 by_cases h4:a1=b1
 rotate_left
 · simp [h4]
 by_cases h5:a2=b2
 rotate_left
 · simp [h5]
 by_cases h6:a3=b3
 rotate_left
 · simp [h6]
 simp [h3,h4,h5,h6]
structure GraftP (gc gp gk gd:Nat) (cx cy cz cl part:Int) (b:Box) (w:World):Prop where
 kc:Bk w gc #[cx,cy,cz,cl] 52
 kp:Bk w gp #[part] 3
 kk:Bk w gk #[.func (.func 112) #[] #[.pointer (some ⟨gd,0,none⟩)]] 87
 kd:Bk w gd #[b.lo.x,b.lo.y,b.lo.z,b.hi.x,b.hi.y,b.hi.z] 25
abbrev GraftF (gc gp gk gd:Nat):Nat→Prop:=fun x=>x=gc∨x=gp∨x=gk∨x=gd
theorem GraftP.stays (gc gp gk gd:Nat) (cx cy cz cl part:Int) (b:Box):zDv (GraftF gc gp gk gd) (GraftP gc gp gk gd cx cy cz cl part b):=fun x y hk h =>
 ⟨h.kc.keeps hk (.inl rfl),h.kp.keeps hk (.inr (.inl rfl)),h.kk.keeps hk (.inr (.inr (.inl rfl))),h.kd.keeps hk (.inr (.inr (.inr rfl)))⟩
theorem GraftP.later {gc gp gk gd:Nat} {cx cy cz cl part:Int} {b:Box} {w w':World} (h:GraftP gc gp gk gd cx cy cz cl part b w) (hb:Below w.heap.size w w'):GraftP gc gp gk gd cx cy cz cl part b w':=⟨h.kc.later hb,h.kp.later hb,h.kk.later hb,h.kd.later hb⟩
end
section
open Go.RowKit Go.Maps Go.ChangeMaps Go.WideElems
open Go.WideMaps (KeyLaw)
abbrev zEZ:Value→Option (DataW Value × List MemPlace):=fun v=>some (.held v,[])
def MapV (k:TypeId) (w:World) (b n:Nat) (f:Value→Option Value):Prop :=
 ∃ D : DataW Value, w.ownsMap Tryz.prog k zEZ b n D ∧
   ∀ key kl,keyOf Tryz.prog k key=some kl→(f key=none→has D kl=false) ∧ ∀ v,f key=some v→has D kl=true ∧ ∀ zd,D.atKey kl zd = .held v
theorem MapV.kept {k:TypeId} {w w':World} {b n:Nat} {f:Value→Option Value} {row:Option Nat} (h:MapV k w b n f) (hg:w.grownBy w' row) (hne:some b ≠ row):MapV k w' b n f:=by
 obtain ⟨D,h1,h2⟩:=h;exact ⟨D,h1.kept hg hne,h2⟩
theorem MapV.of_block {k:TypeId} {w w':World} {b n:Nat} {f:Value→Option Value} (h:MapV k w b n f) (hb:w'.heap[b]? = w.heap[b]?):MapV k w' b n f:=by
 obtain ⟨D,⟨es,clock,h0,F,hs,hD⟩,h2⟩:=h;exact ⟨D,⟨es,clock,hb.trans h0,F,hs,hD⟩,h2⟩
theorem MapV.lt {k:TypeId} {w:World} {b n:Nat} {f:Value→Option Value} (h:MapV k w b n f):b<w.heap.size:=by
 obtain ⟨D,h1,_⟩:=h;exact h1.lt
theorem MapV.mono {k:TypeId} {w:World} {b n m:Nat} {f:Value→Option Value} (h:MapV k w b n f) (hn:n≤m):MapV k w b m f:=by
 obtain ⟨D,h1,h2⟩:=h;exact ⟨D,h1.mono hn,h2⟩
theorem MapV.made (k:TypeId) (w:World):MapV k (w.alloc (.map #[] 0)) w.heap.size 0 (fun _=>none) :=
 ⟨_,World.ownsMap_made w _ _ _,fun key kl hk=>⟨fun _=>rfl,fun i h=>by cases h⟩⟩
theorem MapV.congr {k:TypeId} {w:World} {b n:Nat} {f f':Value→Option Value} (h:MapV k w b n f) (he : ∀ key kl,keyOf Tryz.prog k key=some kl→f key=f' key):MapV k w b n f':=by
 obtain ⟨D,h1,h2⟩:=h;refine ⟨D,h1,fun key kl hk=>?_⟩;rw [←he key kl hk];exact h2 key kl hk
theorem MapV.look {k t e:TypeId} (K:Keyed Tryz.prog k) (ht : Tryz.prog.underlying t=some (.map k e)) {z:Value} {w:World} (hz:(zeroValue e).run Tryz.prog w = .ok z w) {b n:Nat} {f:Value→Option Value} (h:MapV k w b n f) {key:Value} {kl:Lit} (hkey:keyOf Tryz.prog k key=some kl) :
 (Instr.lookup t (.map (some b)) key false).run Tryz.prog w = .ok ((f key).getD z) w∧(Instr.lookup t (.map (some b)) key true).run Tryz.prog w = .ok (.tuple #[(f key).getD z,.bool (f key).isSome]) w:=by
 obtain ⟨D,h1,h2⟩:=h;obtain ⟨v,ps,hrun,hv⟩:=h1.look_ok K ht hz (R:=zEZ) (z:=z) (zd:=.held z) (zp:=[]) rfl hkey;obtain ⟨v',ps',hrun',hv'⟩:=h1.lookup K ht hz (R:=zEZ) (z:=z) (zd:=.held z) (zp:=[]) rfl hkey;have e1:DataW.held v=D.atKey kl (.held z):=congrArg Prod.fst (Option.some.inj hv);have e2:DataW.held v'=D.atKey kl (.held z):=congrArg Prod.fst (Option.some.inj hv');obtain ⟨k1,k2⟩:=h2 key kl hkey;cases hf:f key with
 | none =>
   rw [k1 hf] at hrun;rw [atKey_of_not_has (k1 hf)] at e1 e2;injection e1 with e1;injection e2 with e2;subst e1;subst e2;exact ⟨hrun',hrun⟩
 | some u =>
   obtain ⟨g1,g2⟩:=k2 u hf;rw [g1] at hrun;rw [g2] at e1 e2;injection e1 with e1;injection e2 with e2;subst e1;subst e2;exact ⟨hrun',hrun⟩
open Classical in
noncomputable def zLW (f:Value→Option Value) (key v:Value):Value→Option Value:=fun x=>if x=key then some v else f x
theorem zBV (f:Value→Option Value) (key v:Value):zLW f key v key=some v:=by unfold zLW;rw [if_pos rfl]
theorem zAL (f:Value→Option Value) {key x:Value} (v:Value) (h:x ≠ key):zLW f key v x=f x:=by unfold zLW;rw [if_neg h]
theorem MapV.after {k:TypeId} (K:Keyed Tryz.prog k) {w w':World} {b n m:Nat} {f:Value→Option Value} {D:DataW Value} (hD:w.ownsMap Tryz.prog k zEZ b n D) {key v:Value} {kl:Lit} (hkey:keyOf Tryz.prog k key=some kl)
 (h2 : ∀ key kl,keyOf Tryz.prog k key=some kl→(f key=none→has D kl=false) ∧ ∀ v,f key=some v→has D kl=true ∧ ∀ zd,D.atKey kl zd = .held v)
 (h3:w'.ownsMap Tryz.prog k zEZ b m (D.put kl (.held v))):MapV k w' b m (zLW f key v):=by
 have hm:=hD.isMap;refine ⟨_,h3,fun key' kl' hk'=>?_⟩;by_cases e:key'=key
 · subst e;obtain rfl:kl'=kl:=Option.some.inj (hk'.symm.trans hkey);rw [zBV];refine ⟨(fun h=>by cases h),fun j hj=>?_⟩
   obtain rfl:=Option.some.inj hj;exact ⟨has_put_same hm (K.key hkey) _,fun zd=>atKey_put_same hm (K.key hkey) _ _⟩
 · have hne:kl' ≠ kl:=fun e'=>e (K.inj hk' (e' ▸ hkey));rw [zAL f v e];obtain ⟨k1,k2⟩:=h2 key' kl' hk';exact ⟨fun h=>by rw [has_put_other hne];exact k1 h,fun j hj=>⟨by rw [has_put_other hne];exact (k2 j hj).1,fun zd=>by rw [atKey_put_other hne];exact (k2 j hj).2 zd⟩⟩
theorem MapV.put {k t e:TypeId} (K:Keyed Tryz.prog k) (ht : Tryz.prog.underlying t=some (.map k e)) {w:World} {b n:Nat} {f:Value→Option Value} (h:MapV k w b n f) (hn:n<maxLen) {key:Value} {kl:Lit} (hkey:keyOf Tryz.prog k key=some kl) (v:Value) :
 ∃ w',(Instr.mapUpdate t (.map (some b)) key v).run Tryz.prog w = .ok () w'∧MapV k w' b (n+1) (zLW f key v)∧w.grownBy w' (some b)∧w'.heap.size=w.heap.size:=by
 obtain ⟨D,h1,h2⟩:=h;obtain ⟨w',hrun,h3,h4⟩:=h1.store K ht hn hkey (R:=zEZ) (val:=v) rfl;refine ⟨w',hrun,MapV.after K h1 hkey h2 h3,h4.grown,?_⟩;obtain ⟨es,clock,es',clock',hb,rfl⟩:=h4
 show (w.heap.setIfInBounds b _).size=_
 simp
theorem MapV.entry {k t e:TypeId} (L:KeyLaw Tryz.prog k) (ht : Tryz.prog.underlying t=some (.map k e)) {z:Value} (hz : ∀ u:World,(zeroValue e).run Tryz.prog u = .ok z u) {w:World} {b n:Nat} {f:Value→Option Value} (h:MapV k w b n f) (hn:n<maxLen) {key:Value} {kl:Lit} (hkey:keyOf Tryz.prog k key=some kl) :
 ∃ (st : Nat) (w1 : World), (Instr.mapEntry t (.map (some b)) key).run Tryz.prog w = .ok (.tuple #[(f key).getD z, .int .i64 st]) w1 ∧ w.grownBy w1 (some b) ∧ w1.heap.size = w.heap.size ∧
   ∀ (w2:World) (v:Value),w2.heap[b]? = w1.heap[b]? → ∃ w3,(Instr.entryStore t (.map (some b)) (.int .i64 st) v).run Tryz.prog w2 = .ok () w3∧MapV k w3 b (n+1) (zLW f key v)∧w2.grownBy w3 (some b)∧w3.heap.size=w2.heap.size:=by
 have K:=Keyed.of_law L;have hlook:=(MapV.look K ht (hz w) h hkey).1;obtain ⟨D,h1,h2⟩:=h;obtain ⟨es,clock,hb,F,hs,rfl⟩:=h1;obtain ⟨v0,st,es1,clock1,hrun,hv0,hst⟩:=WideElems.entry_then_store L ht hz hb F hkey
 have e0:v0=(f key).getD z:=by
  have hm:=(⟨es,clock,hb,F,hs,rfl⟩:w.ownsMap Tryz.prog k zEZ b n (.map ((es.toList.map (WideElems.rg Tryz.prog k zEZ)).foldr DataW.insert [])));rcases Maps.fit_look false K ht (hz w) hb F hkey with ⟨g1,g2,-⟩ | ⟨e0,y,g0,g3,g1,-,-,-⟩
  · rw [g1] at hlook;injection hlook with hl _;rcases hv0 with ⟨x,hx,hxk,-⟩ | ⟨-,rfl⟩
    · exact absurd hxk (g2 x hx)
    · exact hl
  · rw [g1] at hlook;injection hlook with hl _;rcases hv0 with ⟨x,hx,hxk,rfl⟩ | ⟨hno,-⟩
    · rcases K.find w hkey es.toList F.keys with ⟨-,q2⟩ | ⟨j,e9,q1,q2,q3⟩
      · exact absurd hxk (q2 x hx)
      · have hn:=((MapKept.stamped_iff es clock).1 F.stamped).2.2
        have uniq : ∀ a∈es.toList,∀ c∈es.toList,a.key=c.key→a=c:=by
         intro a ha c hc hac;rcases List.mem_iff_getElem.1 ha with ⟨i,hi,rfl⟩;rcases List.mem_iff_getElem.1 hc with ⟨i',hi',rfl⟩;by_cases hii:i=i'
         · subst hii;rfl
         · exfalso;rcases Nat.lt_or_gt_of_ne hii with hlt | hlt
           · exact List.pairwise_iff_getElem.1 hn i i' hi hi' hlt hac
           · exact List.pairwise_iff_getElem.1 hn i' i hi' hi hlt hac.symm
        rw [uniq x hx e0 g0 (hxk.trans g3.symm)];exact hl
    · exact absurd g3 (hno e0 g0)
 subst e0;refine ⟨st,setBlock w b (.map es1 clock1),hrun,⟨rfl,rfl,rfl,by simp [setBlock],fun i _ hi=>heap_setBlock_other hb _ (fun e=>hi (by rw [e]))⟩,by simp [setBlock],fun w2 v hw2=>?_⟩
 rw [heap_setBlock_same hb] at hw2;obtain ⟨es',clock',hr1,hr2⟩:=hst w2 v hw2;refine ⟨_,hr1,?_,⟨rfl,rfl,rfl,by simp [setBlock],fun i _ hi=>heap_setBlock_other hw2 _ (fun e=>hi (by rw [e]))⟩,by simp [setBlock]⟩
 have h1:w.ownsMap Tryz.prog k zEZ b n (.map ((es.toList.map (WideElems.rg Tryz.prog k zEZ)).foldr DataW.insert [])):=⟨es,clock,hb,F,hs,rfl⟩;obtain ⟨w',hrun',h3,-⟩:=h1.store K ht hn hkey (R:=zEZ) (val:=v) rfl;rw [hr2] at hrun';injection hrun' with _ hw';obtain ⟨es3,clock3,hb3,F3,hs3,hD3⟩:=h3;rw [←hw',heap_setBlock_same hb] at hb3;injection hb3 with hb3;injection hb3 with q1 q2;subst q1;subst q2;exact MapV.after K h1 hkey h2 ⟨es',clock',heap_setBlock_same hw2 _,F3,hs3,hD3⟩
end
end Go.Proofs.YtfcbajmjaifjlaaGreatDoor
