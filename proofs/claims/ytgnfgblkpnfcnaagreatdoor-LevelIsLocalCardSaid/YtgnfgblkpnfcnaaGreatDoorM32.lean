/- Lhb, Lhc, Lhe: joined by program, for one claim. -/
import Derived.Test.YtgnfgblkpnfcnaaGreatDoorM31
import Derived.Test.YtgnfgblkpnfcnaaGreatDoorM30
import Derived.Test.YtgnfgblkpnfcnaaGreatDoorM22
set_option linter.unusedVariables false
set_option linter.unusedSimpArgs false
namespace Go.Proofs.YtgnfgblkpnfcnaaGreatDoor
section
open Go.RowKit Go.Sort Go.Maps
open Oct
attribute [local go_sem] Oper.semAt_some
set_option maxRecDepth 100000 in
set_option maxHeartbeats 1000000 in
theorem lv_halfc_brick (pd pc pi cb:Nat) (id:Int) (w:World) (kd:Bk w pd #[(3:Int)] 3) (kc:Bk w pc #[.pointer (some ⟨cb,0,none⟩)] 79) (ki:Bk w pi #[id] 3) (R:Ending→World→Prop) (HR : ∀ e w',R e w' → ∃ i er,e=ret2 i er)
 (HB:Bx (Calls Tryz.prog 105 #[.pointer (some ⟨cb,0,none⟩),id] w R)) :
 Calls Tryz.prog 104 #[.pointer (some ⟨pd,0,none⟩),.pointer (some ⟨pc,0,none⟩),.pointer (some ⟨pi,0,none⟩)] w R:=by
 have c0:=kd.cell 0 rfl
 have c1:=kc.cell 0 rfl
 have c2:=ki.cell 0 rfl
 have HRb:=Bx.mk HR
 clear HR kd kc ki
 go_enter Tryz.func104,Tryz.ntmps104
 go_wp2_with fail
 refine HB.out.mono ?_
 intro e w1 h
 obtain ⟨i,er,rfl⟩:=HRb.out e w1 h
 have H:=Bx.mk h
 clear h
 go_wp2_with fail
 first
  | exact H.out
  | (go_ret2;exact H.out)
theorem bk8s {w:World} {g:Nat} {x0 x1 x2 x3 x4 x5 x6 x7:Value} {t:TypeId} (h:Bk w g #[x0,x1,x2,x3,x4,x5,x6,x7] t) (B:Nat) (W:World) (hb:Below B W w) (hg:B≤g) (x:Nat→Int) :
 ∃ W3,W3=((((((((w.setCell ⟨g,0,none⟩ (.int .i64 (x 0))).setCell ⟨g,1,none⟩ (.int .i64 (x 1))).setCell ⟨g,2,none⟩ (.int .i64 (x 2))).setCell ⟨g,3,none⟩ (.int .i64 (x 3))).setCell ⟨g,4,none⟩ (.int .i64 (x 4))).setCell ⟨g,5,none⟩ (.int .i64 (x 5))).setCell ⟨g,6,none⟩ (.int .i64 (x 6))).setCell ⟨g,7,none⟩ (.int .i64 (x 7)))∧Bk W3 g #[.int .i64 (x 0),.int .i64 (x 1),.int .i64 (x 2),.int .i64 (x 3),.int .i64 (x 4),.int .i64 (x 5),.int .i64 (x 6),.int .i64 (x 7)] t∧Below B W W3∧W3.heap.size=w.heap.size :=
 ⟨_,rfl,bk8 h _ _ _ _ _ _ _ _,blw8 hb hg _ _ _ _ _ _ _ _,by simp⟩
set_option maxRecDepth 100000 in
set_option maxHeartbeats 4000000 in
theorem lv_halfc_node (pd pc pi cb sb mb:Nat) (ta:Option Addr) (nl tc:Nat) (id d:Int) (x:Nat→Int) (w:World) (hd:d ≠ 3) (hdr:0≤d∧d≤100) (hC:(Bk w pd #[d] 3∧Bk w pc #[.pointer (some ⟨cb,0,none⟩)] 79∧Bk w pi #[id] 3∧Bk w cb #[.pointer (some ⟨sb,0,none⟩),.slice ta nl tc,.map (some mb)] 138))
 (HK:Bx (∀ W,Below w.heap.size w W→Calls Tryz.prog 68 #[.pointer (some ⟨sb,0,none⟩),id] W fun e w'=>e = .returned (.agg #[.int .i64 (x 0),.int .i64 (x 1),.int .i64 (x 2),.int .i64 (x 3),.int .i64 (x 4),.int .i64 (x 5),.int .i64 (x 6),.int .i64 (x 7)])∧Below W.heap.size W w'))
 (J:Nat→Nat→World→Prop) (Q:World→Prop) (R:Ending→World→Prop) (HR : ∀ e w',R e w' → ∃ i er,e=ret2 i er)
 (H0:Bx (∀ gk W,Below w.heap.size w W→w.heap.size≤gk→gk<W.heap.size→Bk W gk #[.int .i64 (x 0),.int .i64 (x 1),.int .i64 (x 2),.int .i64 (x 3),.int .i64 (x 4),.int .i64 (x 5),.int .i64 (x 6),.int .i64 (x 7)] 54→J gk 0 W))
 (HJ:Bx (∀ gk k W,J gk k W→(Bk W pd #[d] 3∧Bk W pc #[.pointer (some ⟨cb,0,none⟩)] 79∧Bk W pi #[id] 3∧Bk W cb #[.pointer (some ⟨sb,0,none⟩),.slice ta nl tc,.map (some mb)] 138)))
 (HS:Bx (∀ gk k W,k<8→J gk k W→Calls Tryz.prog 46 #[.pointer (some ⟨cb,0,none⟩),.int .i64 (x k),.int .i64 (d - 1)] W fun e w'=>(∃ h,e=ret2 h 0∧(∃ vs,Bk w' gk vs 54∧vs.size=8)∧J gk (k+1) (w'.setCell ⟨gk,k,none⟩ (.int .i64 h)))∨(e=ret2 0 14∧Q w')))
 (HE:Bx (∀ gk W,J gk 8 W → ∃ y:Nat→Int,Bk W gk #[.int .i64 (y 0),.int .i64 (y 1),.int .i64 (y 2),.int .i64 (y 3),.int .i64 (y 4),.int .i64 (y 5),.int .i64 (y 6),.int .i64 (y 7)] 54 ∧ ∀ W',Below W.heap.size W W'→Calls Tryz.prog 106 #[.pointer (some ⟨sb,0,none⟩),.int .i64 (d - 1),.agg #[.int .i64 (y 0),.int .i64 (y 1),.int .i64 (y 2),.int .i64 (y 3),.int .i64 (y 4),.int .i64 (y 5),.int .i64 (y 6),.int .i64 (y 7)]] W' R)) :
 Calls Tryz.prog 104 #[.pointer (some ⟨pd,0,none⟩),.pointer (some ⟨pc,0,none⟩),.pointer (some ⟨pi,0,none⟩)] w fun e w'=>R e w'∨(e=ret2 0 14∧Q w'):=by
 obtain ⟨kd,kc,ki,kk⟩:=hC
 have c0:=kd.cell 0 rfl
 have t0:(d == 3)=false:=by simpa using hd
 obtain ⟨d1,hdd⟩ : ∃ d1,d1=d - 1:=⟨_,rfl⟩
 have hd1:Bx (IntKind.i64.wrap (d - 1)=d1):=⟨by rw [hdd];exact IntWalk.i64_in _ (by omega)⟩
 rw [←hdd] at HS HE
 have HRb:=Bx.mk HR
 replace kd:=Bx.mk kd
 replace kc:=Bx.mk kc
 replace ki:=Bx.mk ki
 replace kk:=Bx.mk kk
 clear hd hdr HR hdd
 go_enter Tryz.func104,Tryz.ntmps104
 go_upto_region 3 with fail
 clear c0 t0
 refine wp_region_relT 7 (fun ii v w'=>match ii with
  | 0=>v = .pointer (some ⟨cb,0,none⟩)
  | 1=>v = .pointer (some ⟨cb,0,none⟩)
  | 2=>v = .pointer (some ⟨cb,0,none⟩)
  | 3=>v = .pointer (some ⟨sb,0,none⟩)
  | 4=>v = .int .i64 id
  | 5=>v = .agg #[.int .i64 (x 0),.int .i64 (x 1),.int .i64 (x 2),.int .i64 (x 3),.int .i64 (x 4),.int .i64 (x 5),.int .i64 (x 6),.int .i64 (x 7)]
  | _ => ∃ g,v = .pointer (some ⟨g,0,none⟩)∧w.heap.size≤g∧Bk w' g #[(0:Int),(0:Int),(0:Int),(0:Int),(0:Int),(0:Int),(0:Int),(0:Int)] 54) (by kernel_rfl) (by kernel_rfl) 53 (by kernel_rfl) (by rfl) ?_ ?_ ?_
 · intro ii hi v u1 u2 hb h
   match ii,hi with
   | 0,_=>exact h
   | 1,_=>exact h
   | 2,_=>exact h
   | 3,_=>exact h
   | 4,_=>exact h
   | 5,_=>exact h
   | 6,_=>obtain ⟨g2,h1,h2,h3⟩:=h;exact ⟨g2,h1,h2,h3.later hb⟩
 · intro ii o hi ho ρ w1 hb hc1 hc2 hc3 hk
   match ii,hi with
   | 0, _ =>
     obtain rfl:=Option.some.inj ho
     have g0:ρ (.tmp 1) = .pointer (some ⟨pc,0,none⟩):=hk 1 (by simp [Op.operands,Call.operands])
     have k1:=kc.out.later hb
     have z0:=k1.cell 0 rfl
     clear hk hb HS HE HJ H0
     go_simp
     exact Below.refl _ _
   | 1, _ =>
     obtain rfl:=Option.some.inj ho
     have g0:ρ (.tmp 17) = .pointer (some ⟨cb,0,none⟩):=hk 17 (by simp [Op.operands,Call.operands])
     clear hk hb HS HE HJ H0
     go_simp
     exact Below.refl _ _
   | 2, _ =>
     obtain rfl:=Option.some.inj ho
     have g0:ρ (.tmp 18) = .pointer (some ⟨cb,0,none⟩):=hk 18 (by simp [Op.operands,Call.operands])
     clear hk hb HS HE HJ H0
     go_simp
     exact Below.refl _ _
   | 3, _ =>
     obtain rfl:=Option.some.inj ho
     have g0:ρ (.tmp 19) = .pointer (some ⟨cb,0,none⟩):=hk 19 (by simp [Op.operands,Call.operands])
     have k1:=kk.out.later hb
     have z0:=k1.cell 0 rfl
     clear hk hb HS HE HJ H0
     go_simp
     exact Below.refl _ _
   | 4, _ =>
     obtain rfl:=Option.some.inj ho
     have g0:ρ (.tmp 2) = .pointer (some ⟨pi,0,none⟩):=hk 2 (by simp [Op.operands,Call.operands])
     have k1:=ki.out.later hb
     have z0:=k1.cell 0 rfl
     clear hk hb HS HE HJ H0
     go_simp
     exact Below.refl _ _
   | 5, _ =>
     obtain rfl:=Option.some.inj ho
     have g0:ρ (.tmp 20) = .pointer (some ⟨sb,0,none⟩):=hk 20 (by simp [Op.operands,Call.operands])
     have g1:ρ (.tmp 21) = .int .i64 id:=hk 21 (by simp [Op.operands,Call.operands])
     have h4:=HK.out w1 hb
     have H4:=Bx.mk h4
     clear h4
     clear hk hb HS HE HJ H0
     go_simp
     all_goals exact H4.out
   | 6, _ =>
     obtain rfl:=Option.some.inj ho
     have hbs:=hb.size
     have Hn:=Bx.mk (show Bk (w1.alloc (.cells #[(0:Int),(0:Int),(0:Int),(0:Int),(0:Int),(0:Int),(0:Int),(0:Int)] 54)) w1.heap.size #[(0:Int),(0:Int),(0:Int),(0:Int),(0:Int),(0:Int),(0:Int),(0:Int)] 54 from Bk.new _ _ _)
     clear hk hb HS HE HJ H0
     go_simp
     exact ⟨(Below.refl _ _).alloc (Nat.le_refl _) _,Hn.out⟩
 · intro vs W1 hlen hb hR
   match vs,hlen with
   | [v0,v1,v2,v3,v4,v5,v6],_ =>
   have r0:v0 = .pointer (some ⟨cb,0,none⟩):=hR 0 v0 rfl
   have r1:v1 = .pointer (some ⟨cb,0,none⟩):=hR 1 v1 rfl
   have r2:v2 = .pointer (some ⟨cb,0,none⟩):=hR 2 v2 rfl
   have r3:v3 = .pointer (some ⟨sb,0,none⟩):=hR 3 v3 rfl
   have r4:v4 = .int .i64 id:=hR 4 v4 rfl
   have r5:v5 = .agg #[.int .i64 (x 0),.int .i64 (x 1),.int .i64 (x 2),.int .i64 (x 3),.int .i64 (x 4),.int .i64 (x 5),.int .i64 (x 6),.int .i64 (x 7)]:=hR 5 v5 rfl
   have r6x:=hR 6 v6 rfl
   clear hR
   subst r0 r1 r2 r3 r4 r5
   obtain ⟨gk,rfl,hgk,kr⟩:=r6x
   have hgl:=kr.lt
   have cr0:=kr.cell 0 rfl;have cr1:=kr.cell 1 rfl;have cr2:=kr.cell 2 rfl;have cr3:=kr.cell 3 rfl;have cr4:=kr.cell 4 rfl;have cr5:=kr.cell 5 rfl;have cr6:=kr.cell 6 rfl;have cr7:=kr.cell 7 rfl
   have fr0:=kr.frozen 0;have fr1:=kr.frozen 1;have fr2:=kr.frozen 2;have fr3:=kr.frozen 3;have fr4:=kr.frozen 4;have fr5:=kr.frozen 5;have fr6:=kr.frozen 6;have fr7:=kr.frozen 7
   simp only [puts,List.take_succ_cons,List.take_zero,List.drop_succ_cons,List.drop_zero,List.map_cons,List.map_nil,List.zip_cons_cons,List.zip_nil_right,List.foldl_cons,List.foldl_nil]
   go_upto_region 4 with fail
   obtain ⟨W3,hW3,kr3,hB3,hsz⟩:=bk8s kr w.heap.size w hb hgk x
   rw [←hW3]
   have HI:=Bx.mk (H0.out gk W3 hB3 hgk (by rw [hsz];exact hgl) kr3)
   have e0:=kr3.cell 0 rfl;have e1:=kr3.cell 1 rfl;have e2:=kr3.cell 2 rfl;have e3:=kr3.cell 3 rfl;have e4:=kr3.cell 4 rfl;have e5:=kr3.cell 5 rfl;have e6:=kr3.cell 6 rfl;have e7:=kr3.cell 7 rfl
   clear cr0 fr0 cr1 fr1 cr2 fr2 cr3 fr3 cr4 fr4 cr5 fr5 cr6 fr6 cr7 fr7 hW3 kr hB3 hsz hb hgl kd kc ki kk HK H0 kr3 hgk
   go_upto_region 5 with fail
   clear e0 e1 e2 e3 e4 e5 e6 e7
   go_loopw [24] (fun i wr => ∃ k:Nat,k≤8∧i = .int .i64 k∧Bx (J gk k wr)) (fun i _=>8 - (intOf i).toNat)
   case atStart=>exact ⟨0,Nat.zero_le _,rfl,HI⟩
   case round =>
    clear HI
    obtain ⟨k,hk,rfl,hI⟩:=hrel
    obtain ⟨kd,kc,ki,kk⟩:=HJ.out gk k wr hI.out
    by_cases hlt:k<8
    · have t1:decide ((k:Int)<8)=true:=by simp;omega
      have hidx:=fun V=>idx_arr x k hlt V
      have hS:=Bx.mk (HS.out gk k wr hlt hI.out)
      have c0:=kd.cell 0 rfl
      have c1:=kc.cell 0 rfl
      have hw:=hd1.out
      have Hlt:=Bx.mk hlt
      clear kd kc ki kk hI HE HJ HS hlt
      go_wp2_with fail
      refine hS.out.mono ?_
      intro e5 w5 h5
      clear hS c0 c1
      rcases h5 with ⟨h,rfl,⟨vs,kv,hvs⟩,hJ⟩ | ⟨rfl,hQ⟩
      · have HJ2:=Bx.mk hJ
        have hlt:=Hlt.out
        have b1:(0:Int)≤(k:Int):=by omega
        have b2:(k:Int)<8:=by omega
        have hfr:=kv.frozen k
        obtain ⟨u,hcell⟩ : ∃ u,w5.cell? ⟨gk,k,none⟩=some u:=⟨vs[k]'(by omega),kv.cell k (by simp [hvs,hlt])⟩
        clear hJ kv hvs
        go_wp2_with fail
        go_roundw
        case rel=>exact ⟨k+1,by omega,by go_num,HJ2⟩
        case measure=>simp [intOf];omega
      · have HQ:=Bx.mk hQ
        clear hQ
        go_wp2_with fail
        go_ret2
        exact .inr ⟨rfl,HQ.out⟩
    · obtain rfl:k=8:=by omega
      have t1:decide (((8:Nat):Int)<8)=false:=by decide
      obtain ⟨y,ky,hE⟩:=HE.out gk wr hI.out
      replace kd:=Bx.mk kd
      replace kc:=Bx.mk kc
      replace ki:=Bx.mk ki
      replace kk:=Bx.mk kk
      replace ky:=Bx.mk ky
      replace hE:=Bx.mk hE
      clear hI HE HJ HS hlt
      go_upto_region 12 with fail
      refine wp_region_relX 7 1 (fun ii v w'=>match ii with
       | 0=>v = .pointer (some ⟨cb,0,none⟩)
       | 1=>v = .pointer (some ⟨cb,0,none⟩)
       | 2=>v = .pointer (some ⟨cb,0,none⟩)
       | 3=>v = .pointer (some ⟨sb,0,none⟩)
       | 4=>v = .int .i64 d
       | 5=>v = .int .i64 d1
       | _=>v = .agg #[.int .i64 (y 0),.int .i64 (y 1),.int .i64 (y 2),.int .i64 (y 3),.int .i64 (y 4),.int .i64 (y 5),.int .i64 (y 6),.int .i64 (y 7)]) (by kernel_rfl) (by kernel_rfl) 53 (by kernel_rfl) (by rfl) ?_ ?_ ?_
      · intro ii hi v u1 u2 hb h
        match ii,hi with
        | 0,_=>exact h
        | 1,_=>exact h
        | 2,_=>exact h
        | 3,_=>exact h
        | 4,_=>exact h
        | 5,_=>exact h
        | 6,_=>exact h
      · intro ii o hi ho ρ w1 hb hc1 hc2 hc3 hk
        match ii,hi with
        | 0, _ =>
          obtain rfl:=Option.some.inj ho
          have g0:ρ (.tmp 1) = .pointer (some ⟨pc,0,none⟩):=hk 1 (by simp [Op.operands,Call.operands])
          have k1:=kc.out.later hb
          have z0:=k1.cell 0 rfl
          clear hk hb hE
          go_simp
          exact Below.refl _ _
        | 1, _ =>
          obtain rfl:=Option.some.inj ho
          have g0:ρ (.tmp 43) = .pointer (some ⟨cb,0,none⟩):=hk 43 (by simp [Op.operands,Call.operands])
          clear hk hb hE
          go_simp
          exact Below.refl _ _
        | 2, _ =>
          obtain rfl:=Option.some.inj ho
          have g0:ρ (.tmp 44) = .pointer (some ⟨cb,0,none⟩):=hk 44 (by simp [Op.operands,Call.operands])
          clear hk hb hE
          go_simp
          exact Below.refl _ _
        | 3, _ =>
          obtain rfl:=Option.some.inj ho
          have g0:ρ (.tmp 45) = .pointer (some ⟨cb,0,none⟩):=hk 45 (by simp [Op.operands,Call.operands])
          have k1:=kk.out.later hb
          have z0:=k1.cell 0 rfl
          clear hk hb hE
          go_simp
          exact Below.refl _ _
        | 4, _ =>
          obtain rfl:=Option.some.inj ho
          have g0:ρ (.tmp 0) = .pointer (some ⟨pd,0,none⟩):=hk 0 (by simp [Op.operands,Call.operands])
          have k1:=kd.out.later hb
          have z0:=k1.cell 0 rfl
          clear hk hb hE
          go_simp
          exact Below.refl _ _
        | 5, _ =>
          obtain rfl:=Option.some.inj ho
          have g0:ρ (.tmp 47) = .int .i64 d:=hk 47 (by simp [Op.operands,Call.operands])
          have hw:=hd1.out
          clear hk hb hE
          go_simp
          exact Below.refl _ _
        | 6, _ =>
          obtain rfl:=Option.some.inj ho
          have g0:ρ (.tmp 5) = .pointer (some ⟨gk,0,none⟩):=hk 5 (by simp [Op.operands,Call.operands])
          have k1:=ky.out.later hb
          obtain ⟨z0,z1,z2,z3,z4,z5,z6,z7⟩:=k1.c8
          clear hk hb hE
          go_simp
          exact Below.refl _ _
      · intro vs W2 hlen hb hR
        match vs,hlen with
        | [v0,v1,v2,v3,v4,v5,v6],_ =>
        have r0:v0 = .pointer (some ⟨cb,0,none⟩):=hR 0 v0 rfl
        have r1:v1 = .pointer (some ⟨cb,0,none⟩):=hR 1 v1 rfl
        have r2:v2 = .pointer (some ⟨cb,0,none⟩):=hR 2 v2 rfl
        have r3:v3 = .pointer (some ⟨sb,0,none⟩):=hR 3 v3 rfl
        have r4:v4 = .int .i64 d:=hR 4 v4 rfl
        have r5:v5 = .int .i64 d1:=hR 5 v5 rfl
        have r6:v6 = .agg #[.int .i64 (y 0),.int .i64 (y 1),.int .i64 (y 2),.int .i64 (y 3),.int .i64 (y 4),.int .i64 (y 5),.int .i64 (y 6),.int .i64 (y 7)]:=hR 6 v6 rfl
        clear hR
        subst r0 r1 r2 r3 r4 r5 r6
        replace hE:=Bx.mk (hE.out W2 hb)
        clear hb kd kc ki kk ky
        simp only [puts,List.take_succ_cons,List.take_zero,List.drop_succ_cons,List.drop_zero,List.map_cons,List.map_nil,List.zip_cons_cons,List.zip_nil_right,List.foldl_cons,List.foldl_nil]
        go_wp2_with fail
        refine hE.out.mono ?_
        intro e9 w9 h9
        obtain ⟨i9,er9,rfl⟩:=HRb.out e9 w9 h9
        have H9:=Bx.mk h9
        clear h9
        go_wp2_with fail
        first
         | exact .inl H9.out
         | (go_ret2;exact .inl H9.out)
end
section
open Go.RowKit Go.Sort Go.Maps
open Oct
theorem okKid_canL (f:Pt→Int) (n:Nat) (a:Pt):okKid (Tr.can f n a) ((n:Int)+3):=by
 cases n with
 | zero =>
   show okKid (Tr.mkBrick _) _
   unfold Tr.mkBrick
   split
   · exact .inl ⟨_,rfl⟩
   · right;show (2:Int)=_;omega
 | succ n =>
   show okKid (Tr.mkInner (n+3) _) _
   unfold Tr.mkInner
   split
   · rename_i h
     obtain ⟨⟨c,hc⟩,-⟩:=h
     exact .inl ⟨c,hc⟩
   · right;show ((n+3:Nat):Int)=_;omega
theorem inner_madeL (w:World) (Far:Nat→Prop) (sb:Nat) (most:Int) (ts:List Tr) (n:Nat) (hn:n≤11) (ch:Nat→Tr) (hch : ∀ i:Fin 8,ch i.val∈ts) (hok : ∀ i:Nat,okKid (ch i) ((n:Int)+3)) (hG:Good ts) (hlen:ts.length≤4000000) (hFar : ∀ k,Far k→k<w.heap.size) (hS:StoreIs w Far sb most ts) :
 Calls Tryz.prog 106 #[.pointer (some ⟨sb,0,none⟩),.int .i64 ((n:Int)+3),.agg #[(idT ts (ch 0):Int),(idT ts (ch 1):Int),(idT ts (ch 2):Int),(idT ts (ch 3):Int),(idT ts (ch 4):Int),(idT ts (ch 5):Int),(idT ts (ch 6):Int),(idT ts (ch 7):Int)]] w (Grew Far sb most ts (Tr.add (Tr.mkInner (n+3) (fun i=>ch i.val)) ts) (Tr.mkInner (n+3) (fun i=>ch i.val)) w):=by
 refine Inner_ok w Far sb most ts ((n:Int)+3) (by omega) (fun k=>(idT ts (ch k):Int)) ⟨fun k hk=>⟨ch k,hch ⟨k,hk⟩,rfl,hok k⟩⟩ (by omega) hS _ (fun e w' h=>by obtain ⟨i,er,h,-⟩:=h.ends;exact ⟨i,er,h⟩) ⟨fun W hb=>?_⟩
 have h:=inner_any W Far sb most ts (n+3) (by omega) (fun i:Fin 8=>ch i.val) hch hG (by omega) (fun k hk=>Nat.lt_of_lt_of_le (hFar k hk) hb.size) (hS.later hb)
 rw [show ((n+3:Nat):Int)=(n:Int)+3 by omega] at h
 exact h.mono fun e w' hg=>⟨(Keeps.below hb).trans hg.keeps,Nat.le_trans hb.size hg.size,hg.way⟩
theorem row8 {w:World} {g:Nat} {t:TypeId} {y:Nat→Int} (h:w.rowIs g t 8 fun j=>.int .i64 (y j)):Bk w g #[.int .i64 (y 0),.int .i64 (y 1),.int .i64 (y 2),.int .i64 (y 3),.int .i64 (y 4),.int .i64 (y 5),.int .i64 (y 6),.int .i64 (y 7)] t:=by
 obtain ⟨cs,hb,hs,hc⟩:=h
 have e:cs=#[.int .i64 (y 0),.int .i64 (y 1),.int .i64 (y 2),.int .i64 (y 3),.int .i64 (y 4),.int .i64 (y 5),.int .i64 (y 6),.int .i64 (y 7)]:=by
  apply Array.ext_getElem?
  intro j
  rcases j with _ | _ | _ | _ | _ | _ | _ | _ | j
  all_goals first
   | (rw [hc _ (by omega)];rfl)
   | (rw [Array.getElem?_eq_none (by omega),Array.getElem?_eq_none (by simp)])
 rw [←e];exact hb
theorem row8_of {w:World} {g:Nat} {t:TypeId} {y:Nat→Int} (h:Bk w g #[.int .i64 (y 0),.int .i64 (y 1),.int .i64 (y 2),.int .i64 (y 3),.int .i64 (y 4),.int .i64 (y 5),.int .i64 (y 6),.int .i64 (y 7)] t):w.rowIs g t 8 fun j=>.int .i64 (y j) :=
 ⟨_,h,rfl,fun i hi=>by rcases i with _ | _ | _ | _ | _ | _ | _ | _ | i;all_goals first | rfl | omega⟩
structure HJI (w:World) (Far:Nat→Prop) (cb sb mb:Nat) (ta:Option Addr) (tc:Nat) (L:List Mat) (most:Int) (ts K:List Tr) (B:Nat) (chT chH:Nat→Tr) (gk k:Nat) (wr:World):Prop where
 store:StoreIs wr (FarM (fun x=>Far x∨(w.heap.size≤x∧x≤gk)) mb) sb most (Tr.addK (fun i=>chH i.val) k ts)
 fits:Tr.Fits most ts (Tr.addK (fun i=>chH i.val) k ts)
 memo : ∃ K',Memo wr mb (solT L) (Tr.addK (fun i=>chH i.val) k ts) K' ∧ ∀ x∈K',x∈K∨Tr.sz x<B
 row:wr.rowIs gk 54 8 (fun j=>.int .i64 (if j<k then (idT (Tr.addK (fun i=>chH i.val) k ts) (chH j):Int) else (idT ts (chT j):Int)))
 keeps:Keeps Far w wr
 size:gk<wr.heap.size
 ge:w.heap.size≤gk
theorem hji_step {w wr w5:World} {Far:Nat→Prop} {cb sb mb:Nat} {ta:Option Addr} {tc:Nat} {L:List Mat} {most:Int} {ts K:List Tr} {B:Nat} {chT chH:Nat→Tr} {gk k:Nat} (HF : ∀ k,Far k→k<w.heap.size) (hmb:mb<w.heap.size) (hk:k<8) {Kk:List Tr}
 (hI:HJI w Far cb sb mb ta tc L most ts K B chT chH gk k wr) (hKk : ∀ x∈Kk,x∈K∨Tr.sz x<B) (hT:Tr.sz (chT k)<B)
 (hD:HD (fun x=>Far x∨(w.heap.size≤x∧x≤gk)) mb sb most (solT L) (Tr.addK (fun i=>chH i.val) k ts) (Tr.addK (fun i=>chH i.val) (k+1) ts) (Tr.sz (chT k)+1) (chH k) Kk wr (ret2 (idT (Tr.addK (fun i=>chH i.val) (k+1) ts) (chH k):Int) 0) w5)
 (hf:Tr.Fits most (Tr.addK (fun i=>chH i.val) k ts) (Tr.addK (fun i=>chH i.val) (k+1) ts)) :
 HJI w Far cb sb mb ta tc L most ts K B chT chH gk (k+1) (w5.setCell ⟨gk,k,none⟩ (.int .i64 (idT (Tr.addK (fun i=>chH i.val) (k+1) ts) (chH k):Int))):=by
 have hg:=grown_setCell w5 ⟨gk,k,none⟩ (.int .i64 (idT (Tr.addK (fun i=>chH i.val) (k+1) ts) (chH k):Int))
 have hp1:=Tr.addK_prefix (fun i:Fin 8=>chH i.val) k (by omega) ts
 have hp2:Tr.addK (fun i:Fin 8=>chH i.val) k ts <+: Tr.addK (fun i:Fin 8=>chH i.val) (k+1) ts:=addK_pre (by omega) (by omega)
 have hge:=hI.ge
 have hfar : ∀ x,Far x→gk ≠ x:=fun x hx e=>by have:=HF x hx;omega
 have hfg:(fun x=>Far x∨(w.heap.size≤x∧x≤gk)) gk:=.inr ⟨hI.ge,Nat.le_refl _⟩
 obtain ⟨-,hs,K',hK,hKs⟩:_∧_∧_:=by
  rcases hD.way with ⟨-,h1,h2,h3⟩ | ⟨h,-⟩
  · exact ⟨h1,h2,h3⟩
  · exact absurd hf h
 refine ⟨hs.apart hg (.inl hfg),Tr.fits_trans hp1 hp2 hI.fits hf,⟨K',hK.later (hg.block mb hK.lt (by simp;omega)),fun x hx=>?_⟩,?_,?_,?_,hI.ge⟩
 · rcases hKs x hx with h | h
   · exact hKk x h
   · exact .inr (by omega)
 · refine ((rowIs_far hI.row hD.keeps hfg).set k _).congr (fun j hj=>?_)
   by_cases e:j=k
   · subst e;rw [if_pos rfl,if_pos (by omega)]
   · rw [if_neg e]
     by_cases h5:j<k
     · rw [if_pos h5,if_pos (by omega)]
       have hm:=Tr.addK_mem (fun i:Fin 8=>chH i.val) ts k (by omega) ⟨j,hj⟩ h5
       have:=idT_prefix hp2 hm
       simp only at this
       rw [this]
     · rw [if_neg h5,if_neg (by omega)]
 · exact (hI.keeps.trans (hD.keeps.less (fun k hk=>.inl hk))).trans (Keeps.grown hg (fun g e hx=>by injection e with e;exact hfar _ hx e))
 · have h2:=hD.keeps.size
   have h3:=hI.size
   rw [size_setCell];omega
end
section
open Go.RowKit Go.Sort Go.Maps
open Oct
theorem HD.weak {Far:Nat→Prop} {mb sb:Nat} {most:Int} {s:Int→Bool} {ts ts':List Tr} {B B':Nat} {H:Tr} {K:List Tr} {w w':World} {e:Ending} (h:HD Far mb sb most s ts ts' B H K w e w') (hB:B≤B'):HD Far mb sb most s ts ts' B' H K w e w':=by
 refine ⟨h.keeps,?_⟩
 rcases h.way with ⟨h1,h2,h3,K',h4,h5⟩ | h1
 · exact .inl ⟨h1,h2,h3,K',h4,fun x hx=>(h5 x hx).imp id fun h=>Nat.lt_of_lt_of_le h hB⟩
 · exact .inr h1
theorem HD.yes {Far:Nat→Prop} {mb sb:Nat} {most:Int} {s:Int→Bool} {ts ts':List Tr} {B:Nat} {H:Tr} {K:List Tr} {w w':World} {h:Int} (hd:HD Far mb sb most s ts ts' B H K w (ret2 h 0) w') :
 Tr.Fits most ts ts'∧h=(idT ts' H:Int)∧StoreIs w' (FarM Far mb) sb most ts' ∧ ∃ K',Memo w' mb s ts' K' ∧ ∀ x∈K',x∈K∨Tr.sz x<B:=by
 rcases hd.way with ⟨h1,h2,h3,h4⟩ | ⟨h1,h2,h3⟩
 · refine ⟨h1,?_,h3,h4⟩
   simpa [ret2] using h2
 · simp [ret2] at h2
theorem lv_halve_wrap (cb sb mb:Nat) (ta:Option Addr) (tc:Nat) (L:List Mat) (most:Int) (us K:List Tr) (dn:Nat) (ch:Fin 8→Tr) (H:Tr) (w:World) (Far:Nat→Prop) (hd:dn≤16) (hC:HCtx w Far cb sb mb ta tc L) (hS:StoreIs w (FarM Far mb) sb most us) (hK:Memo w mb (solT L) us K)
 (hFar : ∀ k,Far k→k<w.heap.size) (hT:Tr.node dn ch∈us) (hH:halfT (solT L) (.node dn ch)=H) (hlen:(Tr.add H us).length≤4000000)
 (HM:Bx (∀ W,Below w.heap.size w W→w.heap.size+3≤W.heap.size→Bk W w.heap.size #[.pointer (some ⟨cb,0,none⟩)] 79→Bk W (w.heap.size+1) #[(idT us (.node dn ch):Int)] 3→Bk W (w.heap.size+1+1) #[(dn:Int)] 3 →
  Calls Tryz.prog 104 #[.pointer (some ⟨w.heap.size+1+1,0,none⟩),.pointer (some ⟨w.heap.size,0,none⟩),.pointer (some ⟨w.heap.size+1,0,none⟩)] W (HD (fun x=>Far x∨(w.heap.size≤x∧x<w.heap.size+3)) mb sb most (solT L) us (Tr.add H us) (Tr.sz (.node dn ch)) H K W))) :
 Calls Tryz.prog 46 #[.pointer (some ⟨cb,0,none⟩),(idT us (.node dn ch):Int),(dn:Int)] w (HD Far mb sb most (solT L) us (Tr.add H us) (Tr.sz (.node dn ch)+1) H K w):=by
 have hp:=Tr.add_prefix H us
 have hl0:us.length≤4000000:=Nat.le_trans hp.length_le hlen
 have hmb:=hK.lt
 have hdp:0≤depT (.node dn ch)∧depT (.node dn ch)≤16:=by simp only [depT];omega
 have hkind : ∀ W,Below w.heap.size w W→Calls Tryz.prog 103 #[.pointer (some ⟨sb,0,none⟩),(idT us (.node dn ch):Int)] W fun e w'=>e = .returned (.int .i64 3)∧W=w':=fun W hb=>kindV_any (FarM Far mb) sb most us _ hT (by omega) W (hS.later hb)
 by_cases hin:Tr.node dn ch∈K
 · refine (lv_half_hit cb sb mb ta L.length tc _ _ 3 w hC.kc (idT us H:Int) (by decide) ⟨hkind⟩ ⟨fun W hb=>?_⟩).mono ?_
   · rcases (hK.later (hb.block mb hmb)).look hl0 hT hdp with ⟨-,hr⟩ | ⟨hn,-⟩
     · rw [hH] at hr;exact hr
     · exact absurd hin hn
   · rintro e w' ⟨rfl,hb⟩
     exact HD.same hb hS hK (by have:=(hK.mem _ hin).2;rwa [hH] at this)
 · refine (lv_half_miss cb sb mb ta L.length tc _ _ 3 w hC.kc (by decide)
    (fun e w'=>HD (fun x=>Far x∨(w.heap.size≤x∧x<w.heap.size+3)) mb sb most (solT L) us (Tr.add H us) (Tr.sz (.node dn ch)) H K w e w'∧Bk w' w.heap.size #[.pointer (some ⟨cb,0,none⟩)] 79∧Bk w' (w.heap.size+1) #[(idT us (.node dn ch):Int)] 3∧Bk w' (w.heap.size+1+1) #[(dn:Int)] 3)
    (fun h w'=>HD (fun x=>Far x∨(w.heap.size≤x∧x<w.heap.size+3)) mb sb most (solT L) us (Tr.add H us) (Tr.sz (.node dn ch)) H K w (ret2 h 0) w'∧Bk w' w.heap.size #[.pointer (some ⟨cb,0,none⟩)] 79∧Bk w' (w.heap.size+1) #[(idT us (.node dn ch):Int)] 3∧Bk w' (w.heap.size+1+1) #[(dn:Int)] 3)
    (fun h w'=>HD Far mb sb most (solT L) us (Tr.add H us) (Tr.sz (.node dn ch)+1) H K w (ret2 h 0) w')
    (fun w'=>HD Far mb sb most (solT L) us (Tr.add H us) (Tr.sz (.node dn ch)+1) H K w (ret2 0 14) w')
    ⟨hkind⟩ ⟨fun W hb=>?_⟩ ⟨fun W hb hsz k1 k2 k3=>?_⟩ (fun e w' h=>?_) ⟨fun h w' hP=>?_⟩).mono ?_
   · rcases (hK.later (hb.block mb hmb)).look hl0 hT hdp with ⟨hn,-⟩ | ⟨-,hr⟩
     · exact absurd hn hin
     · exact hr
   · refine (HM.out W hb hsz k1 k2 k3).mono fun e w' h=>⟨h.since hb fun k hk=>hk,?_,?_,?_⟩
     · exact k1.far h.keeps (.inr ⟨Nat.le_refl _,by omega⟩)
     · exact k2.far h.keeps (.inr ⟨by omega,by omega⟩)
     · exact k3.far h.keeps (.inr ⟨by omega,by omega⟩)
   · obtain ⟨h,k1,k2,k3⟩:=h
     rcases h.way with ⟨-,rfl,-⟩ | ⟨-,rfl,-⟩
     · exact .inl ⟨_,rfl,h,k1,k2,k3⟩
     · exact .inr ⟨rfl,(h.weak (Nat.le_succ _)).since (Below.refl _ _) fun k hk=>.inl hk⟩
   · obtain ⟨hD,k1,k2,k3⟩:=hP
     refine ⟨⟨k1,k2,k3,hC.kc.far hD.keeps (.inl hC.fc)⟩,fun W hb=>?_⟩
     obtain ⟨h1,rfl,h3,K',h4,h5⟩:=hD.yes
     have h4':=h4.later (hb.block mb h4.lt)
     have hTi:Tr.node dn ch∈Tr.add H us:=hp.subset hT
     have hnin:Tr.node dn ch ∉ K':=fun h=>(h5 _ h).elim hin (fun h=>absurd h (Nat.lt_irrefl _))
     obtain ⟨W',hr,m1,m2,m3⟩:=h4'.put hlen hTi hdp hnin (by rw [hH];exact Tr.mem_add _ _)
     rw [hH] at hr
     refine ⟨W',?_,?_,.inl ⟨h1,rfl,?_,_,m1,fun x hx=>?_⟩⟩
     · unfold keyM at hr
       rw [idT_prefix hp hT] at hr
       exact hr
     · exact ((hD.keeps.less fun k hk=>.inl hk).trans (Keeps.below hb)).trans (Keeps.grown m2 fun g e hx=>by injection e with e;exact hC.fm (e ▸ hx))
     · exact ((h3.later hb).apart m2 (.inr rfl)).less (FarM.mono fun k hk=>.inl hk)
     · rcases List.mem_append.1 hx with hx | hx
       · exact (h5 x hx).imp id fun h=>Nat.lt_succ_of_lt h
       · rw [List.mem_singleton.1 hx];exact .inr (Nat.lt_succ_self _)
   · rintro e w' (⟨h,rfl,hD⟩ | ⟨rfl,hD⟩)
     · exact hD
     · exact hD
set_option maxHeartbeats 1000000 in
theorem lv_halve_rec (cb sb mb:Nat) (ta:Option Addr) (tc:Nat) (L:List Mat) (hl:L.length≤1000000000) (most:Int) : ∀ (n:Nat),n≤11 → ∀ (f:Pt→Int),(∀ p,0≤f p∧f p≤255) → ∀ (w:World) (Far:Nat→Prop) (us K:List Tr),
 HCtx w Far cb sb mb ta tc L→StoreIs w (FarM Far mb) sb most us→Memo w mb (solT L) us K→Good us→(∀ k,Far k→k<w.heap.size)→trF (n+1) f∈us→(Tr.add (trF n (halfF (solT L) f)) us).length≤4000000 →
 Calls Tryz.prog 46 #[.pointer (some ⟨cb,0,none⟩),.int .i64 (idT us (trF (n+1) f):Int),.int .i64 ((n:Int)+3)] w (HD Far mb sb most (solT L) us (Tr.add (trF n (halfF (solT L) f)) us) (Tr.sz (trF (n+1) f)+1) (trF n (halfF (solT L) f)) K w):=by
 intro n
 induction n with
 | zero =>
   intro hn f hf w Far us K hC hS hK hG hFar hT hlen
   have hl0:us.length≤4000000:=Nat.le_trans (Tr.add_prefix _ us).length_le hlen
   rcases can_cases f 1 ⟨0,0,0⟩ with ⟨c,hc⟩ | ⟨h,_⟩ | ⟨m,ch,hm,he,hch⟩
   · have hu:trF 0 (halfF (solT L) f) = .uni c:=half_uni (al0 0) hc
     rw [show trF (0+1) f = .uni c from hc] at hT ⊢
     rw [hu]
     refine (lv_half_uni cb sb mb ta L.length tc _ _ 1 w hC.kc rfl ⟨fun W hb=>kindV_any (FarM Far mb) sb most us _ hT (by omega) W (hS.later hb)⟩).mono ?_
     rintro e w' ⟨rfl,hb⟩
     exact HD.same hb hS hK hT
   · omega
   · obtain rfl:m=0:=by omega
     have hhT:halfT (solT L) (trF (0+1) f)=trF 0 (halfF (solT L) f):=half_trF _ f 0
     have hGet : ∀ W,StoreIs W (FarM Far mb) sb most us → ∀ x y z:Int,0≤x∧x<8→0≤y∧y<8→0≤z∧z<8→Calls Tryz.prog 55 #[.pointer (some ⟨sb,0,none⟩),.int .i64 (idT us (trF (0+1) f):Int),(3:Int),.agg #[x,y,z]] W fun e w'=>e = .returned (.int .i64 (f ⟨x,y,z⟩))∧Below W.heap.size W w':=fun W hS x y z hx hy hz=>by
      have hin:inB ⟨x,y,z⟩ (cubeB (2 ^ (1+2)))=true:=inB_iff.2 (by simp only [cubeB,Pt.zero];omega)
      have h:=get_in W (FarM Far mb) sb most us _ hT 1 (by omega) (dep_can f 1 _) hG (by omega) x y z hin hS
      rwa [get_tr hin] at h
     rw [show trF (0+1) f = .node 3 ch from he] at hT hhT hGet ⊢
     refine lv_halve_wrap cb sb mb ta tc L most us K 3 ch _ w Far (by omega) hC hS hK hFar hT hhT hlen ⟨fun W hb hsz k1 k2 k3=>?_⟩
     have hSW:=(hS.widen (Far':=FarM (fun x=>Far x∨(w.heap.size≤x∧x<w.heap.size+3)) mb) (fun k hk=>by rcases hk with (hk | hk) | hk;exact .inl (.inl hk);exact .inr hk.1;exact .inl (.inr hk))).later hb
     have hKW:=hK.later (hb.block mb hK.lt)
     refine lv_halfc_brick _ _ _ cb _ W k3 k1 k2 _ (fun e w' h=>h.ends) ⟨?_⟩
     refine lv_brick cb sb ta tc L _ _ f (fun i k=>f ⟨2 * ((i:Int) % 4)+(k:Int) % 2,2 * ((i:Int) / 4 % 4)+(k:Int) / 2 % 2,2 * ((i:Int) / 16)+(k:Int) / 4⟩) W hl (hC.tb.below hb) (hC.kc.later hb) hf (fun i k _ _=>rfl) ⟨fun W2 hb2=>hGet W2 ((hS.later hb).later hb2)⟩ _ (fun e w' h=>h.ends) ⟨fun W2 a cap hb2 hsl=>?_⟩
     have hx:((List.range 64).map fun (i:Nat)=>pickV (solT L) (l8 fun k=>f ⟨2 * ((i:Int) % 4)+(k:Int) % 2,2 * ((i:Int) / 4 % 4)+(k:Int) / 2 % 2,2 * ((i:Int) / 16)+(k:Int) / 4⟩))=(List.range 64).map fun (i:Nat)=>halfF (solT L) f (Tr.cellAt ⟨0,0,0⟩ i):=List.map_congr_left fun i _=>by rw [l8_eight];rfl
     rw [hx] at hsl
     have hfh : ∀ p,0≤halfF (solT L) f p∧halfF (solT L) f p≤255:=fun p=>by
      obtain ⟨q,e,_⟩:=mem_eight (half_spec (solT L) f p).mem
      rw [e];exact hf q
     have hbr:=brick_any W2 (FarM (fun x=>Far x∨(w.heap.size≤x∧x<w.heap.size+3)) mb) sb most us a cap _ (by simp) (by
      rw [List.all_eq_true]
      intro x hx
      obtain ⟨i,_,rfl⟩:=List.mem_map.1 hx
      have:=hfh (Tr.cellAt ⟨0,0,0⟩ i)
      simp [Pal.cell];omega) hsl hG (by omega) (fun k hk=>by
       have h1:=hb2.size
       rcases hk with (hk | hk) | hk
       · have:=hFar k hk;have:=hb.size;omega
       · omega
       · have:=hK.lt;have:=hb.size;omega) (hSW.later hb2)
     refine hbr.mono fun e w' hg=>?_
     exact (HD.made (B:=Tr.sz (.node 3 ch)) hg (Tr.add_prefix _ _) (hKW.later (hb2.block mb hKW.lt))).since hb2 fun k hk=>hk
 | succ n ih =>
   intro hn f hf w Far us K hC hS hK hG hFar hT hlen
   have hl0:us.length≤4000000:=Nat.le_trans (Tr.add_prefix _ us).length_le hlen
   rcases can_cases f (n+1+1) ⟨0,0,0⟩ with ⟨c,hc⟩ | ⟨h,_⟩ | ⟨m,ch,hm,he,hch⟩
   · have hu:trF (n+1) (halfF (solT L) f) = .uni c:=half_uni (al0 (n+1)) hc
     rw [show trF (n+1+1) f = .uni c from hc] at hT ⊢
     rw [hu]
     refine (lv_half_uni cb sb mb ta L.length tc _ _ 1 w hC.kc rfl ⟨fun W hb=>kindV_any (FarM Far mb) sb most us _ hT (by omega) W (hS.later hb)⟩).mono ?_
     rintro e w' ⟨rfl,hb⟩
     exact HD.same hb hS hK hT
   · omega
   · obtain rfl:m=n+1:=by omega
     have hhT:halfT (solT L) (trF (n+1+1) f)=trF (n+1) (halfF (solT L) f):=half_trF _ f (n+1)
     have hw:=wf_can hf (n+1+1) ⟨0,0,0⟩ (by omega)
     have hfh : ∀ p,0≤halfF (solT L) f p∧halfF (solT L) f p≤255:=fun p=>by
      obtain ⟨q,e,_⟩:=mem_eight (half_spec (solT L) f p).mem
      rw [e];exact hf q
     rw [show trF (n+1+1) f = .node (n+1+3) ch from he] at hT hhT ⊢
     have hdd:((n+1:Nat):Int)+3=((n+1+3:Nat):Int):=by omega
     rw [hdd]
     refine lv_halve_wrap cb sb mb ta tc L most us K (n+1+3) ch _ w Far (by omega) hC hS hK hFar hT hhT hlen ⟨fun W hb hsz k1 k2 k3=>?_⟩
     obtain ⟨chH,hchH⟩ : ∃ chH:Nat→Tr,chH=fun k=>Tr.can (halfF (solT L) f) n (Tr.cor ⟨0,0,0⟩ n k):=⟨_,rfl⟩
     obtain ⟨chT,hchT⟩ : ∃ chT:Nat→Tr,chT=fun k=>Tr.can f (n+1) (Tr.cor ⟨0,0,0⟩ (n+1) k):=⟨_,rfl⟩
     have hTT:ch=fun i=>chT i.val:=by funext i;rw [hchT];exact hch i
     have hHH:trF (n+1) (halfF (solT L) f)=Tr.mkInner (n+3) fun i=>chH i.val:=by rw [hchH];rfl
     have hkT : ∀ k,k<8→chT k∈us:=fun k hk=>by have:=hG.closed.2 _ _ hT ⟨k,hk⟩;rwa [hTT] at this
     have hwH : ∀ i,Tr.WF (chH i):=fun i=>by rw [hchH];exact wf_can hfh n _ (by omega)
     have hszT : ∀ k,k<8→Tr.sz (chT k)<Tr.sz (.node (n+1+3) ch):=fun k hk=>by have:=Tr.sz_kid (n+1+3) ch ⟨k,hk⟩;rw [hTT] at this ⊢; exact this
     have hpre : ∀ k,k≤8→Tr.addK (fun i:Fin 8=>chH i.val) k us <+: Tr.add (trF (n+1) (halfF (solT L) f)) us:=fun k hk=>by rw [hHH];exact (addK_pre hk (Nat.le_refl _)).trans (inner_pre hG)
     obtain ⟨Far1,hF1⟩ : ∃ F:Nat→Prop,F=fun x=>Far x∨(w.heap.size≤x∧x<w.heap.size+3):=⟨_,rfl⟩
     rw [←hF1]
     have hmbW:mb<W.heap.size:=Nat.lt_of_lt_of_le hK.lt hb.size
     have hF1W : ∀ k,Far1 k→k<W.heap.size:=fun k hk=>by
      rw [hF1] at hk
      have:=hb.size
      rcases hk with hk | hk
      · have:=hFar k hk;omega
      · omega
     have hC1:HCtx W Far1 cb sb mb ta tc L:=(hC.later hb).wider (fun k hk=>by rw [hF1];exact .inl hk) (by
      rw [hF1]
      have:=hK.lt
      rintro (h | h)
      · exact hC.fm h
      · omega)
     have hSW:StoreIs W (FarM Far1 mb) sb most us:=(hS.widen (Far':=FarM Far1 mb) (fun k hk=>by rw [hF1] at hk;rcases hk with (hk | hk) | hk;exact .inl (.inl hk);exact .inr hk.1;exact .inl (.inr hk))).later hb
     have hKW:=hK.later (hb.block mb hK.lt)
     have g1:Far1 w.heap.size:=by rw [hF1];exact .inr ⟨Nat.le_refl _,by omega⟩
     have g2:Far1 (w.heap.size+1):=by rw [hF1];exact .inr ⟨by omega,by omega⟩
     have g3:Far1 (w.heap.size+1+1):=by rw [hF1];exact .inr ⟨by omega,by omega⟩
     have hdm:((n+1+3:Nat):Int) - 1=(n:Int)+3:=by omega
     refine (lv_halfc_node _ _ _ cb sb mb ta L.length tc _ _ (fun k=>(idT us (chT k):Int)) W (by omega) (by omega) ⟨k3,k1,k2,hC1.kc⟩ ⟨fun W2 hb2=>?_⟩
      (HJI W Far1 cb sb mb ta tc L most us K (Tr.sz (.node (n+1+3) ch)) chT chH)
      (fun w'=>HD Far1 mb sb most (solT L) us (Tr.add (trF (n+1) (halfF (solT L) f)) us) (Tr.sz (.node (n+1+3) ch)) (trF (n+1) (halfF (solT L) f)) K W (ret2 0 14) w')
      (HD Far1 mb sb most (solT L) us (Tr.add (trF (n+1) (halfF (solT L) f)) us) (Tr.sz (.node (n+1+3) ch)) (trF (n+1) (halfF (solT L) f)) K W)
      (fun e w' h=>h.ends) ⟨fun gk W2 hb2 hge hlt kr=>?_⟩ ⟨fun gk k W2 hI=>?_⟩ ⟨fun gk k W2 hk hI=>?_⟩ ⟨fun gk W2 hI=>?_⟩).mono ?_
     · have h:=storeKids_any (FarM Far1 mb) sb most us (n+1+3) ch hT W2 (hSW.later hb2)
       rw [hTT] at h ⊢
       exact h
     · refine ⟨?_,.inl rfl,⟨K,hKW.later (hb2.block mb hKW.lt),fun x hx=>.inl hx⟩,(row8_of (y:=fun k=>(idT us (chT k):Int)) kr).congr fun i hi=>?_,Keeps.below hb2,hlt,hge⟩
       · exact (hSW.widen fun k hk=>by
          rcases hk with (hk | hk) | hk
          · exact .inl (.inl hk)
          · exact .inr hk.1
          · exact .inl (.inr hk)).later hb2
       · simp only [Nat.not_lt_zero,if_false]
     · have hk2:=hI.keeps
       exact ⟨k3.far hk2 g3,k1.far hk2 g1,k2.far hk2 g2,hC1.kc.far hk2 hC1.fc⟩
     · have hGk:Good (Tr.addK (fun i:Fin 8=>chH i.val) k us):=good_addK hG (fun i=>hwH _) k (by omega)
       have hpk:=Tr.addK_prefix (fun i:Fin 8=>chH i.val) k (by omega) us
       have hsucc:Tr.addK (fun i:Fin 8=>chH i.val) (k+1) us=Tr.add (chH k) (Tr.addK (fun i:Fin 8=>chH i.val) k us):=Tr.addK_succ _ hk _
       obtain ⟨Kk,hKk,hKks⟩:=hI.memo
       have hge:=hI.ge
       have hih:=ih (by omega) (shf (Tr.cor ⟨0,0,0⟩ (n+1) k) f) (fun p=>hf _) W2 (fun x=>Far1 x∨(W.heap.size≤x∧x≤gk)) (Tr.addK (fun i:Fin 8=>chH i.val) k us) Kk
       rw [can_sh0,dbl_cor0 n k,half_shf,can_sh0,←dbl_cor0 n k,show Tr.can f (n+1) (Tr.cor ⟨0,0,0⟩ (n+1) k)=chT k by rw [hchT],show Tr.can (halfF (solT L) f) n (Tr.cor ⟨0,0,0⟩ n k)=chH k by rw [hchH],←hsucc,idT_prefix hpk (hkT k hk)] at hih
       rw [hdm]
       refine (hih ((hC1.far hI.keeps).wider (fun k hk=>.inl hk) (by rintro (h | h);exact hC1.fm h;omega)) hI.store hKk hGk (fun x hx=>?_) (hpk.subset (hkT k hk)) (Nat.le_trans (hpre (k+1) (by omega)).length_le hlen)).mono ?_
       · have h1:=hI.keeps.size
         have h2:=hI.size
         rcases hx with hx | hx
         · have:=hF1W x hx;omega
         · omega
       · intro e w' hD
         have hrow:=rowIs_far hI.row hD.keeps (.inr ⟨hI.ge,Nat.le_refl _⟩)
         obtain ⟨vs,hv1,hv2,-⟩:=hrow
         rcases hD.way with ⟨h1,rfl,-⟩ | ⟨h1,rfl,vs2,v1,v2,v3,v4⟩
         · exact .inl ⟨_,rfl,⟨vs,hv1,hv2⟩,hji_step hF1W hmbW hk hI hKks (hszT k hk) hD h1⟩
         · refine .inr ⟨rfl,hI.keeps.trans (hD.keeps.less fun k hk=>.inl hk),.inr ⟨?_,rfl,vs2,v1,hpk.trans v2,v3.trans (hpre (k+1) (by omega)),v4.less (FarM.mono fun k hk=>.inl hk)⟩⟩
           have hp2:Tr.addK (fun i:Fin 8=>chH i.val) k us <+: Tr.addK (fun i:Fin 8=>chH i.val) (k+1) us:=addK_pre (by omega) (by omega)
           exact Tr.not_fits_mono (hpk.trans hp2) (hpre (k+1) (by omega)) (Tr.not_fits_later hpk hp2 h1)
     · have hG8:Good (Tr.addK (fun i:Fin 8=>chH i.val) 8 us):=good_addK hG (fun i=>hwH _) 8 (Nat.le_refl _)
       have hp8:=Tr.addK_prefix (fun i:Fin 8=>chH i.val) 8 (Nat.le_refl _) us
       refine ⟨fun j=>(idT (Tr.addK (fun i:Fin 8=>chH i.val) 8 us) (chH j):Int),row8 (y:=fun j=>(idT (Tr.addK (fun i:Fin 8=>chH i.val) 8 us) (chH j):Int)) (hI.row.congr fun i hi=>by simp only [hi,if_true]),fun W3 hb3=>?_⟩
       obtain ⟨K8,hK8,hK8s⟩:=hI.memo
       have hin:=inner_madeL W3 (FarM (fun x=>Far1 x∨(W.heap.size≤x∧x≤gk)) mb) sb most (Tr.addK (fun i:Fin 8=>chH i.val) 8 us) n (by omega) chH (fun i=>Tr.addK_mem _ us 8 (Nat.le_refl _) i i.isLt) (fun i=>by rw [hchH];exact okKid_canL _ n _) hG8 (Nat.le_trans (hpre 8 (Nat.le_refl _)).length_le hlen) (fun k hk=>by
        have h1:=hI.keeps.size
        have h2:=hI.size
        have h3:=hb3.size
        rcases hk with (hk | hk) | hk
        · have:=hF1W k hk;omega
        · omega
        · omega) (hI.store.later hb3)
       rw [inner_again hG (fun i=>hwH _),←hHH] at hin
       rw [hdm]
       refine hin.mono fun e w' hg=>?_
       have hK3:=hK8.later (hb3.block mb hK8.lt)
       have hD:=(HD.made (B:=Tr.sz (.node (n+1+3) ch)) hg (hpre 8 (Nat.le_refl _)) hK3).since hb3 fun k hk=>hk
       refine ⟨hI.keeps.trans (hD.keeps.less fun k hk=>.inl hk),?_⟩
       rcases hD.way with ⟨h1,h2,h3,K',h4,h5⟩ | ⟨h1,h2,vs,v1,v2,v3,v4⟩
       · exact .inl ⟨Tr.fits_trans hp8 (hpre 8 (Nat.le_refl _)) hI.fits h1,h2,h3.less (FarM.mono fun k hk=>.inl hk),K',h4,fun x hx=>(h5 x hx).elim (hK8s x) .inr⟩
       · exact .inr ⟨Tr.not_fits_later hp8 (hpre 8 (Nat.le_refl _)) h1,h2,vs,v1,hp8.trans v2,v3,v4.less (FarM.mono fun k hk=>.inl hk)⟩
     · rintro e w' (h | ⟨rfl,h⟩)
       · exact h
       · exact h
end
end Go.Proofs.YtgnfgblkpnfcnaaGreatDoor
