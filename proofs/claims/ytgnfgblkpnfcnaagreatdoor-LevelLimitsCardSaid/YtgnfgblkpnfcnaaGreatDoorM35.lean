/- Lhp, Lhq, Lhr, Sch, Idx: joined by program, for one claim. -/
import Derived.Test.YtgnfgblkpnfcnaaGreatDoorM34
import Derived.Test.YtgnfgblkpnfcnaaGreatDoorM29
import Derived.Test.YtgnfgblkpnfcnaaGreatDoorM26
import Derived.Deep.CutRange
import Derived.Laws.CopyOwn
set_option linter.unusedVariables false
set_option linter.unusedSimpArgs false
namespace Go.Proofs.YtgnfgblkpnfcnaaGreatDoor
section
open Go.RowKit Go.Sort Go.Maps
open Oct
attribute [local go_sem] Oper.semAt_some
set_option maxRecDepth 100000 in
set_option maxHeartbeats 4000000 in
theorem lv_pyr_clo (pD pS pT pO sb B:Nat) (ta:Option Addr) (nl tc N:Nat) (hN:N≤12) (X:Nat→Int) (w:World) (J:Nat→Nat→Value→World→Prop) (Q:World→Prop)
 (HJ:Bx (∀ k m v W,J k m v W→B≤W.heap.size∧(∀ g,v.ownBlock=some g→g ≠ pO)∧Bk W pD #[.int .i64 ((N:Int)+2)] 3∧Bk W pS #[.pointer (some ⟨sb,0,none⟩)] 31∧Bk W pT #[.slice ta nl tc] 29∧Bk W pO #[v] 26∧Own W B 3 .i64 v ((List.range m).map X)))
 (HJl:Bx (∀ k m v W W',J k m v W→Below W.heap.size W W'→J k m v W')) (H0 : ∃ v,J 0 1 v w)
 (HC:Bx (∀ k v W W1 mb,k<N→J k (k+1) v W→Below W.heap.size W W1→W.heap.size≤mb→Bk W1 (mb+1) #[.pointer (some ⟨sb,0,none⟩),.slice ta nl tc,.map (some mb)] 138→MapV 140 W1 mb 0 (fun _=>none) →
  Calls Tryz.prog 46 #[.pointer (some ⟨mb+1,0,none⟩),.int .i64 (X k),.int .i64 ((N:Int)+2 - k)] W1 fun e w'=>(e=ret2 (X (k+1)) 0∧J (k+1) (k+1) v w')∨(e=ret2 0 14∧Q w')))
 (HA:Bx (∀ k v v1 W w1,J (k+1) (k+1) v W→Own w1 B 3 .i64 v1 ((List.range (k+2)).map X)→W.grownBy w1 v.ownBlock→(v1.ownBlock=v.ownBlock∨v1.ownBlock=some W.heap.size)→J (k+1) (k+2) v1 (w1.setCell ⟨pO,0,none⟩ v1))) :
 Calls Tryz.prog 44 #[.pointer (some ⟨pD,0,none⟩),.pointer (some ⟨pS,0,none⟩),.pointer (some ⟨pT,0,none⟩),.pointer (some ⟨pO,0,none⟩)] w fun e w'=>(e = .returned (.int .i64 0) ∧ ∃ v,J N (N+1) v w')∨(e = .returned (.int .i64 14)∧Q w'):=by
 obtain ⟨v0,hJ0⟩:=H0
 have kd0:=((HJ.out 0 1 v0 w hJ0).2.2.1).cell 0 rfl
 have HI:=Bx.mk hJ0
 clear hJ0
 go_enter Tryz.func44,Tryz.ntmps44
 go_upto_region 2 with fail
 clear kd0
 go_loopw [5] (fun v5 wr => ∃ k:Nat,k≤N∧v5 = .int .i64 ((N:Int)+2 - k) ∧ ∃ v,Bx (J k (k+1) v wr)) (fun i _=>(intOf i).toNat)
 case atStart=>exact ⟨0,Nat.zero_le _,by simp,v0,HI⟩
 case round =>
  clear HI
  obtain ⟨k,hk,rfl,v,hI⟩:=hrel
  by_cases hlt:k<N
  · have t0:decide ((N:Int)+2 - (k:Int) > 2)=true:=by simp;omega
    obtain ⟨hBl,hne,kD,kS,kT,kO,hown⟩:=HJ.out _ _ v wr hI.out
    have hxl:((List.range (k+1)).map X).length=k+1:=by simp
    obtain ⟨g,cap,rfl,hgB,-,hcl,-,-⟩:=hown.at (by rw [hxl];omega)
    rw [hxl] at kO hI
    have hsl:=hcl k (X k) (by simp)
    clear hcl
    have hs1:=Bx.mk (show IntKind.i64.wrap ((k:Int)+1 - 1)=(k:Int) by rw [show (k:Int)+1 - 1=(k:Int) by omega];exact IntWalk.i64_in _ (by omega))
    have hs1b:=Bx.mk (show IntKind.i64.wrap (k:Int)=(k:Int) from IntWalk.i64_in _ (by omega))
    have hk1:=Bx.mk (show (0:Int)≤(k:Int)∧(k:Int)<(k:Int)+1 by omega)
    have hs2:=Bx.mk (show IntKind.i64.wrap ((N:Int)+2 - (k:Int) - 1)=(N:Int)+2 - ((k+1:Nat):Int) by rw [show (N:Int)+2 - (k:Int) - 1=(N:Int)+2 - ((k+1:Nat):Int) by omega];exact IntWalk.i64_in _ (by omega))
    have hcx:=Bx.mk hsl
    have hC:=Bx.mk fun W1 mb h1 h2 h3 h4=>HC.out k _ wr W1 mb hlt hI.out h1 h2 h3 h4
    have hA:=Bx.mk fun v v1 W w1 h1 h2 h3 h4=>HA.out k v v1 W w1 h1 h2 h3 h4
    have hJ2:=Bx.mk fun v W h=>HJ.out (k+1) (k+1) v W h
    have hJl:=Bx.mk fun v W W' h=>HJl.out (k+1) (k+1) v W W' h
    replace kS:=Bx.mk kS
    replace kT:=Bx.mk kT
    replace kO:=Bx.mk kO
    obtain ⟨x0,hx0⟩ : ∃ x,x=X k:=⟨_,rfl⟩
    rw [←hx0] at hcx hC
    obtain ⟨x1,hx1⟩ : ∃ x,x=X (k+1):=⟨_,rfl⟩
    rw [←hx1] at hC
    have hcat:Bx ((List.range (k+1)).map X++[x1]=(List.range (k+2)).map X):=⟨by rw [hx1,List.range_succ (n:=k+1),List.map_append];rfl⟩
    obtain ⟨dd,hdd⟩ : ∃ d:Int,d=(N:Int)+2 - (k:Int):=⟨_,rfl⟩
    rw [←hdd] at t0 hC ⊢
    obtain ⟨d1,hd1⟩ : ∃ d:Int,d=(N:Int)+2 - ((k+1:Nat):Int):=⟨_,rfl⟩
    have hs3:Bx (IntKind.i64.wrap (dd - 1)=d1):=⟨by rw [hd1,hdd];exact hs2.out⟩
    have Hd1:=Bx.mk hd1
    have Hdd:=Bx.mk hdd
    have Hlt:=Bx.mk hlt
    clear hs2 hlt hdd hd1 hx0 hx1 hown hsl hI kD hxl hBl hgB hne HJ HJl HC HA
    go_upto_region 4 with fail
    refine wp_region_relX 10 1 (fun ii v w'=>match ii with
     | 0=>v = .pointer (some ⟨sb,0,none⟩)
     | 1=>v = .slice ta nl tc
     | 2=>OfV wr.heap.size sb ta nl tc v w'
     | 3=>v = .slice (some ⟨g,0,none⟩) ((k+1:Nat)) cap
     | 4=>v = .slice (some ⟨g,0,none⟩) ((k+1:Nat)) cap
     | 5=>v = .int .i64 ((k:Int)+1)
     | 6=>v = .int .i64 (k:Int)
     | 7=>v = .pointer (some ⟨g,k,none⟩)
     | 8=>v = .int .i64 x0
     | _=>v = .int .i64 dd) (by kernel_rfl) (by kernel_rfl) 34 (by kernel_rfl) (by rfl) ?_ ?_ ?_
    · intro ii hi v u1 u2 hb h
      match ii,hi with
      | 0,_=>exact h
      | 1,_=>exact h
      | 2,_=>exact h.later hb
      | 3,_=>exact h
      | 4,_=>exact h
      | 5,_=>exact h
      | 6,_=>exact h
      | 7,_=>exact h
      | 8,_=>exact h
      | 9,_=>exact h
    · intro ii o hi ho ρ w1 hb hc1 hc2 hc3 hk
      match ii,hi with
      | 0, _ =>
        obtain rfl:=Option.some.inj ho
        have g0:ρ (.tmp 1) = .pointer (some ⟨pS,0,none⟩):=hk 1 (by simp [Op.operands,Call.operands])
        have k1:=kS.out.later hb
        have z0:=k1.cell 0 rfl
        clear hk hb hC hA hJ2 hJl
        go_simp
        exact Below.refl _ _
      | 1, _ =>
        obtain rfl:=Option.some.inj ho
        have g0:ρ (.tmp 2) = .pointer (some ⟨pT,0,none⟩):=hk 2 (by simp [Op.operands,Call.operands])
        have k1:=kT.out.later hb
        have z0:=k1.cell 0 rfl
        clear hk hb hC hA hJ2 hJl
        go_simp
        exact Below.refl _ _
      | 2, _ =>
        obtain rfl:=Option.some.inj ho
        have g0:ρ (.tmp 14) = .pointer (some ⟨sb,0,none⟩):=hk 14 (by simp [Op.operands,Call.operands])
        have g1:ρ (.tmp 15) = .slice ta nl tc:=hk 15 (by simp [Op.operands,Call.operands])
        have h4:=(lv_of sb ta nl tc w1).mono fun e w2 h=>(⟨_,lv_of_post hb.size h⟩ : ∃ v,e = .returned v∧Below w1.heap.size w1 w2∧OfV wr.heap.size sb ta nl tc v w2)
        have H4:=Bx.mk h4
        clear h4
        clear hk hb hC hA hJ2 hJl
        go_simp
        all_goals exact H4.out
      | 3, _ =>
        obtain rfl:=Option.some.inj ho
        have g0:ρ (.tmp 3) = .pointer (some ⟨pO,0,none⟩):=hk 3 (by simp [Op.operands,Call.operands])
        have k1:=kO.out.later hb
        have z0:=k1.cell 0 rfl
        clear hk hb hC hA hJ2 hJl
        go_simp
        exact Below.refl _ _
      | 4, _ =>
        obtain rfl:=Option.some.inj ho
        have g0:ρ (.tmp 3) = .pointer (some ⟨pO,0,none⟩):=hk 3 (by simp [Op.operands,Call.operands])
        have k1:=kO.out.later hb
        have z0:=k1.cell 0 rfl
        clear hk hb hC hA hJ2 hJl
        go_simp
        exact Below.refl _ _
      | 5, _ =>
        obtain rfl:=Option.some.inj ho
        have g0:ρ (.tmp 18) = .slice (some ⟨g,0,none⟩) ((k+1:Nat)) cap:=hk 18 (by simp [Op.operands,Call.operands])
        clear hk hb hC hA hJ2 hJl
        go_simp
        exact Below.refl _ _
      | 6, _ =>
        obtain rfl:=Option.some.inj ho
        have g0:ρ (.tmp 19) = .int .i64 ((k:Int)+1):=hk 19 (by simp [Op.operands,Call.operands])
        have hw:=hs1.out
        have hw2:=hs1b.out
        clear hk hb hC hA hJ2 hJl
        go_simp
        exact Below.refl _ _
      | 7, _ =>
        obtain rfl:=Option.some.inj ho
        have g0:ρ (.tmp 17) = .slice (some ⟨g,0,none⟩) ((k+1:Nat)) cap:=hk 17 (by simp [Op.operands,Call.operands])
        have g1:ρ (.tmp 20) = .int .i64 (k:Int):=hk 20 (by simp [Op.operands,Call.operands])
        have b1:=hk1.out
        clear hk hb hC hA hJ2 hJl
        go_simp
        exact Below.refl _ _
      | 8, _ =>
        obtain rfl:=Option.some.inj ho
        have g0:ρ (.tmp 21) = .pointer (some ⟨g,k,none⟩):=hk 21 (by simp [Op.operands,Call.operands])
        have z0:=cell_later hb hcx.out
        clear hk hb hC hA hJ2 hJl
        go_simp
        exact Below.refl _ _
      | 9, _ =>
        obtain rfl:=Option.some.inj ho
        have g0:ρ (.tmp 5) = .int .i64 dd:=hk 5 (by simp [Op.operands,Call.operands])
        clear hk hb hC hA hJ2 hJl
        go_simp
        exact Below.refl _ _
    · intro vs W1 hlen hb hR
      match vs,hlen with
      | [v0,v1,v2,v3,v4,v5,v6,v7,v8,v9],_ =>
      have r0:v0 = .pointer (some ⟨sb,0,none⟩):=hR 0 v0 rfl
      have r1:v1 = .slice ta nl tc:=hR 1 v1 rfl
      have r3:v3 = .slice (some ⟨g,0,none⟩) ((k+1:Nat)) cap:=hR 3 v3 rfl
      have r4:v4 = .slice (some ⟨g,0,none⟩) ((k+1:Nat)) cap:=hR 4 v4 rfl
      have r5:v5 = .int .i64 ((k:Int)+1):=hR 5 v5 rfl
      have r6:v6 = .int .i64 (k:Int):=hR 6 v6 rfl
      have r7:v7 = .pointer (some ⟨g,k,none⟩):=hR 7 v7 rfl
      have r8:v8 = .int .i64 x0:=hR 8 v8 rfl
      have r9:v9 = .int .i64 dd:=hR 9 v9 rfl
      have r2x:=hR 2 v2 rfl
      clear hR
      subst r0 r1 r3 r4 r5 r6 r7 r8 r9
      obtain ⟨mb,rfl,hm1,hm2,hm3⟩:=r2x
      have hc:=Bx.mk (hC.out W1 mb hb hm1 hm2 hm3)
      clear hC hb hm1 hm2 hm3 kS kT kO hcx hs1 hs1b hk1
      simp only [puts,List.take_succ_cons,List.take_zero,List.drop_succ_cons,List.drop_zero,List.map_cons,List.map_nil,List.zip_cons_cons,List.zip_nil_right,List.foldl_cons,List.foldl_nil]
      simp only [Act.put,List.setIfInBounds_toArray,List.set_cons_succ,List.set_cons_zero]
      go_wp2_with fail
      refine hc.out.mono ?_
      rintro e w2 (⟨rfl,hJ⟩ | ⟨rfl,hQ⟩)
      · obtain ⟨hBl,hne,-,-,-,kO,hown⟩:=hJ2.out _ w2 hJ
        have c0:w2.cell? ⟨pO,0,none⟩=some (.slice (some ⟨g,0,none⟩) ((k+1:Nat)) cap):=kO.cell 0 rfl
        have HJ2:=Bx.mk hJ
        have Hown:=Bx.mk hown
        have KO:=Bx.mk kO
        have Hne:=Bx.mk (hne g rfl)
        have hln:((List.range (k+1)).map X).length≤1000000000:=by have:=Hlt.out;simp;omega
        have hw3:=hs3.out
        clear hJ hown hc kO hJ2 hne
        go_wp2_with (first
         | (at_builtin
            refine wpList_append_int rfl _ _ 26 rfl 3 .i64 (.int .i64 0) 8 (by omega) Tryz.underlying26 (by kernel_rfl) rfl B _ ((List.range (k+1)).map X) rfl (Hown.out.alloc _) x1 ⟨w2.heap.size,0,none⟩ 1 rfl (cell_new _ _ _) hln (Nat.le_trans hBl (by simp)) ?_
            intro v1 w1 hown1 hg1 hwh
            rw [hcat.out] at hown1
            obtain ⟨a1,cap1,hv1,-⟩:=hown1.form
            rw [show ((List.range (k+2)).map X).length=k+2 by simp] at hv1
            subst hv1
            have kO1:=(KO.out.alloc (.cells #[x1] 3)).grownO hg1 (fun e=>Hne.out (Option.some.inj e))
            have c1:=kO1.cell 0 rfl
            have f1:=kO1.frozen 0
            have HA2:=Bx.mk (hA.out _ _ _ w1 (hJl.out _ _ _ HJ2.out ((Below.refl _ _).alloc (Nat.le_refl _) _)) hown1 hg1 hwh)
            clear hown1 hg1 hwh kO1))
        have hlt:=Hlt.out
        have e1:=Hd1.out
        have e2:=Hdd.out
        go_roundw
        case rel=>exact ⟨k+1,by omega,by rw [Hd1.out],_,HA2⟩
        case measure=>simp only [intOf];omega
      · have HQ:=Bx.mk hQ
        clear hQ hc
        go_wp2_with fail
        go_ret
        exact .inr ⟨rfl,HQ.out⟩
  · obtain rfl:k=N:=by omega
    have t0:decide ((k:Int)+2 - (k:Int) > 2)=false:=by simp;omega
    clear hlt HC HA HJ HJl
    go_wp2_with fail
    go_ret
    exact .inl ⟨rfl,v,hI.out⟩
end
section
open Go.RowKit Go.Sort Go.Maps
open Oct
set_option maxRecDepth 100000 in
set_option maxHeartbeats 2000000 in
theorem lv_Pyr_walk (sb:Nat) (ta:Option Addr) (nl tc len N:Nat) (hN:N≤12) (X:Nat→Int) (w:World) (J:Nat→Nat→Value→World→Prop) (Q Q2:World→Prop)
 (HLen:Bx (∀ W,Below w.heap.size w W→Calls Tryz.prog 32 #[.pointer (some ⟨sb,0,none⟩)] W fun e w'=>e = .returned (.int .i64 (len:Int))∧W=w'))
 (H0:Bx (∀ W,Below w.heap.size w W→W.heap.size=w.heap.size+5→Bk W w.heap.size #[.pointer (some ⟨sb,0,none⟩)] 31→Bk W (w.heap.size+1) #[.slice ta nl tc] 29→Bk W (w.heap.size+2) #[.int .i64 ((N:Int)+2)] 3→Own W w.heap.size 3 .i64 (.slice (some ⟨w.heap.size+3,0,none⟩) 1 1) [X 0]→Bk W (w.heap.size+4) #[.slice (some ⟨w.heap.size+3,0,none⟩) 1 1] 26→J 0 1 (.slice (some ⟨w.heap.size+3,0,none⟩) 1 1) W))
 (HJ:Bx (∀ k m v W,J k m v W→w.heap.size≤W.heap.size∧(∀ g,v.ownBlock=some g→g ≠ w.heap.size+4)∧Bk W (w.heap.size+2) #[.int .i64 ((N:Int)+2)] 3∧Bk W w.heap.size #[.pointer (some ⟨sb,0,none⟩)] 31∧Bk W (w.heap.size+1) #[.slice ta nl tc] 29∧Bk W (w.heap.size+4) #[v] 26∧Own W w.heap.size 3 .i64 v ((List.range m).map X)))
 (HJl:Bx (∀ k m v W W',J k m v W→Below W.heap.size W W'→J k m v W'))
 (HC:Bx (∀ k v W W1 mb,k<N→J k (k+1) v W→Below W.heap.size W W1→W.heap.size≤mb→Bk W1 (mb+1) #[.pointer (some ⟨sb,0,none⟩),.slice ta nl tc,.map (some mb)] 138→MapV 140 W1 mb 0 (fun _=>none) →
  Calls Tryz.prog 46 #[.pointer (some ⟨mb+1,0,none⟩),.int .i64 (X k),.int .i64 ((N:Int)+2 - k)] W1 fun e w'=>(e=ret2 (X (k+1)) 0∧J (k+1) (k+1) v w')∨(e=ret2 0 14∧Q w')))
 (HA:Bx (∀ k v v1 W w1,J (k+1) (k+1) v W→Own w1 w.heap.size 3 .i64 v1 ((List.range (k+2)).map X)→W.grownBy w1 v.ownBlock→(v1.ownBlock=v.ownBlock∨v1.ownBlock=some W.heap.size)→J (k+1) (k+2) v1 (w1.setCell ⟨w.heap.size+4,0,none⟩ v1)))
 (HT:Bx (∀ w',Q w'→Calls Tryz.prog 102 #[.pointer (some ⟨sb,0,none⟩),(len:Int)] w' fun e w2=>e = .returned (.tuple #[])∧Q2 w2)) :
 Calls Tryz.prog 12 #[.pointer (some ⟨sb,0,none⟩),.slice ta nl tc,.int .i64 (X 0),.int .i64 ((N:Int)+2)] w fun e w'=>(∃ v,e = .returned (.tuple #[v,(0:Int)])∧J N (N+1) v w')∨(e = .returned (.tuple #[.slice none 0 0,(14:Int)])∧Q2 w'):=by
 go_enter Tryz.func12,Tryz.ntmps12
 go_upto_region 2 with fail
 generalize hW:World.alloc (World.alloc (World.alloc (World.alloc (World.alloc w _) _) _) _) _=W
 have hB:Below w.heap.size w W:=by rw [←hW];exact (((((Below.refl _ _).alloc (Nat.le_refl _) _).alloc (by simp) _).alloc (by simp;omega) _).alloc (by simp;omega) _).alloc (by simp;omega) _
 have hsz:W.heap.size=w.heap.size+5:=by rw [←hW];simp
 have ks:Bk W w.heap.size #[.pointer (some ⟨sb,0,none⟩)] 31:=by rw [←hW];exact blk_old (blk_old (blk_old (blk_old (blk_new _ _ _ (by simp)))))
 have kt:Bk W (w.heap.size+1) #[.slice ta nl tc] 29:=by rw [←hW];exact blk_old (blk_old (blk_old (blk_new _ _ _ (by simp))))
 have kd:Bk W (w.heap.size+2) #[.int .i64 ((N:Int)+2)] 3:=bk2 hW
 have kr:Own W w.heap.size 3 .i64 (.slice (some ⟨w.heap.size+3,0,none⟩) 1 1) [X 0]:=by
  rw [←hW]
  refine Own.alloc ?_ _
  have h:=Own.lit (((w.alloc (.cells #[.pointer (some ⟨sb,0,none⟩)] 31)).alloc (.cells #[.slice ta nl tc] 29)).alloc (.cells #[.int .i64 ((N:Int)+2)] 3)) w.heap.size 3 .i64 #[.int .i64 (X 0)] [X 0] 1 (by simp;omega) (by decide) rfl rfl
  simpa using h
 have ko:Bk W (w.heap.size+4) #[.slice (some ⟨w.heap.size+3,0,none⟩) 1 1] 26:=bk0 hW
 clear hW
 have hj:=H0.out W hB hsz ks kt kd kr ko
 have hw:=Bx.mk (lv_whole sb len 44 #[.pointer (some ⟨w.heap.size+1+1,0,none⟩),.pointer (some ⟨w.heap.size,0,none⟩),.pointer (some ⟨w.heap.size+1,0,none⟩),.pointer (some ⟨w.heap.size+1+1+1+1,0,none⟩)] W
  (fun w' => ∃ v,J N (N+1) v w') Q Q2 ⟨HLen.out W hB⟩ ⟨enters_of Tryz.func44 rfl rfl⟩
  ⟨lv_pyr_clo (w.heap.size+2) w.heap.size (w.heap.size+1) (w.heap.size+4) sb w.heap.size ta nl tc N hN X W J Q HJ HJl ⟨_,hj⟩ HC HA⟩ HT)
 have c0:=ks.cell 0 rfl
 clear ks kt kd kr ko hB hsz hj HLen H0 HC HA HJl HT
 go_wp2_with fail
 refine hw.out.mono ?_
 rintro _ w2 (⟨rfl,v,hJ⟩ | ⟨rfl,hQ⟩)
 · obtain ⟨-,-,-,-,-,ko,-⟩:=HJ.out _ _ _ _ hJ
   have c1:w2.cell? ⟨w.heap.size+1+1+1+1,0,none⟩=some v:=ko.cell 0 rfl
   have H:=Bx.mk hJ
   clear hw hJ HJ ko
   go_wp2_with fail
   go_ret2
   exact .inl ⟨v,rfl,H.out⟩
 · have HQ:=Bx.mk hQ
   clear hw hQ HJ
   go_wp2_with fail
   go_ret2
   exact .inr ⟨rfl,HQ.out⟩
end
section
open Go.RowKit Go.Sort Go.Maps
open Oct
theorem Own.farL {w w':World} {Far:Nat→Prop} {B:Nat} {e:TypeId} {k:IntKind} {v:Value} {xs:List Int} (h:Own w B e k v xs) (hk:Keeps Far w w') (hf : ∀ g,v.ownBlock=some g→Far g):Own w' B e k v xs:=by
 refine ⟨h.1,?_⟩
 rcases h.2 with hn | ⟨g,cap,cur,rfl,hb,hgg,rest⟩
 · exact .inl hn
 · exact .inr ⟨g,cap,cur,rfl,hb,by rw [hk.block g (hf g rfl) (Array.getElem?_eq_some_iff.1 hgg).1];exact hgg,rest⟩
theorem half_range {s:Int→Bool} {f:Pt→Int} (hf : ∀ p,0≤f p∧f p≤255) : ∀ p,0≤halfF s f p∧halfF s f p≤255:=fun p=>by
 obtain ⟨q,e,_⟩:=mem_eight (half_spec s f p).mem
 rw [e];exact hf q
theorem lvl_range {s:Int→Bool} {f:Pt→Int} (hf : ∀ p,0≤f p∧f p≤255) : ∀ k p,0≤lvlF s f k p∧lvlF s f k p≤255
 | 0=>hf
 | k+1=>half_range (lvl_range hf k)
theorem lvS_between {s:Int→Bool} {N:Nat} {f:Pt→Int} (hN:N≤12) (hf:FnC N f) {ts:List Tr} (hG:Good ts) : ∀ k,k≤N→Between ts (lvS s N f ts k)
 | 0,_=>Between.same hG
 | k+1,hk=>(lvS_between hN hf hG k (by omega)).trans (between_add _ (lvS_good hN hf hG k (by omega)) (wf_can (lvl_fn hf (k+1) hk).range _ _ (by omega))) (addn_pre _ _ _)
noncomputable def lvX (s:Int→Bool) (N:Nat) (f:Pt→Int) (ts:List Tr) (k:Nat):Int:=idn (lvS s N f ts k) (N - k) (lvlF s f k)
def FR (F0:Nat→Prop) (pO:Nat) (v:Value):Nat→Prop:=fun x=>F0 x∨x=pO∨v.ownBlock=some x
structure PJ (w:World) (Far:Nat→Prop) (sb:Nat) (most:Int) (ta:Option Addr) (tc:Nat) (L:List Mat) (N:Nat) (f:Pt→Int) (ts:List Tr) (k m:Nat) (v:Value) (W:World):Prop where
 st:StoreIs W (FR (fun x=>Far x∨(w.heap.size≤x∧x<w.heap.size+3)) (w.heap.size+4) v) sb most (lvS (solT L) N f ts k)
 size:w.heap.size+5≤W.heap.size
 tb:SlM W ta L
 own:Own W w.heap.size 3 .i64 v ((List.range m).map (lvX (solT L) N f ts))
 nv : ∀ g,v.ownBlock=some g → ¬(Far g∨(w.heap.size≤g∧g<w.heap.size+3))∧g ≠ w.heap.size+4
 keeps:Keeps Far w W
 kd:Bk W (w.heap.size+2) #[.int .i64 ((N:Int)+2)] 3
 ks:Bk W w.heap.size #[.pointer (some ⟨sb,0,none⟩)] 31
 kt:Bk W (w.heap.size+1) #[.slice ta L.length tc] 29
 ko:Bk W (w.heap.size+4) #[v] 26
 fits:Tr.Fits most ts (lvS (solT L) N f ts k)
theorem PJ.later {w W W':World} {Far:Nat→Prop} {sb:Nat} {most:Int} {ta:Option Addr} {tc:Nat} {L:List Mat} {N:Nat} {f:Pt→Int} {ts:List Tr} {k m:Nat} {v:Value} (h:PJ w Far sb most ta tc L N f ts k m v W) (hb:Below W.heap.size W W'):PJ w Far sb most ta tc L N f ts k m v W' :=
 ⟨h.st.later hb,Nat.le_trans h.size hb.size,h.tb.below hb,h.own.below hb,h.nv,h.keeps.trans (Keeps.below hb),h.kd.later hb,h.ks.later hb,h.kt.later hb,h.ko.later hb,h.fits⟩
structure PyrDone (w:World) (Far:Nat→Prop) (sb:Nat) (most:Int) (L:List Mat) (N:Nat) (f:Pt→Int) (ts:List Tr) (e:Ending) (w':World):Prop where
 keeps:Keeps Far w w'
 way:(Tr.Fits most ts (lvS (solT L) N f ts N) ∧ ∃ v,e = .returned (.tuple #[v,(0:Int)])∧Own w' w.heap.size 3 .i64 v ((List.range (N+1)).map (lvX (solT L) N f ts))∧StoreIs w' (fun x=>Far x∨v.ownBlock=some x) sb most (lvS (solT L) N f ts N)) ∨
  (¬Tr.Fits most ts (lvS (solT L) N f ts N)∧e = .returned (.tuple #[.slice none 0 0,(14:Int)])∧StoreIs w' Far sb most ts)
set_option maxHeartbeats 1000000 in
theorem lv_Pyramid (w:World) (Far:Nat→Prop) (sb:Nat) (ta:Option Addr) (tc:Nat) (L:List Mat) (hl:L.length≤1000000000) (most:Int) (ts:List Tr) (st:StoreIs w Far sb most ts) (lt : ∀ k,Far k→k<w.heap.size) (tb:SlM w ta L) (ft:L ≠ [] → ∀ b,ta.map (·.block)=some b→Far b)
 (hG:Good ts) (N:Nat) (hN:N≤12) (f:Pt→Int) (hf:FnC N f) (hT:trF N f∈ts) (hlen:(lvS (solT L) N f ts N).length≤4000000) :
 Calls Tryz.prog 12 #[.pointer (some ⟨sb,0,none⟩),.slice ta L.length tc,.int .i64 (idn ts N f),.int .i64 ((N:Int)+2)] w (PyrDone w Far sb most L N f ts):=by
 have hF0 : ∀ k,(Far k∨(w.heap.size≤k∧k<w.heap.size+3))→k<w.heap.size+3:=fun k hk=>by
  rcases hk with hk | hk
  · have:=lt k hk;omega
  · exact hk.2
 have hn4 : ∀ g,some (w.heap.size+4)=some g → ¬Far g:=fun g e hg=>by injection e with e;have:=lt g hg;omega
 refine (lv_Pyr_walk sb ta L.length tc ts.length N hN (lvX (solT L) N f ts) w (PJ w Far sb most ta tc L N f ts)
  (fun w'=>¬Tr.Fits most ts (lvS (solT L) N f ts N)∧(∃ vs,ts <+: vs∧vs <+: lvS (solT L) N f ts N∧StoreIs w' Far sb most vs)∧Keeps Far w w')
  (fun w'=>¬Tr.Fits most ts (lvS (solT L) N f ts N)∧StoreIs w' Far sb most ts∧Keeps Far w w')
  ⟨fun W hb=>len_any Far sb most ts W (st.later hb)⟩ ⟨fun W hb hsz ks kt kd kr ko=>?_⟩ ⟨fun k m v W h=>?_⟩ ⟨fun k m v W W' h hb=>h.later hb⟩ ⟨fun k v W W1 mb hk h hb hm kc hmv=>?_⟩ ⟨fun k v v1 W w1 h hown hg hwh=>?_⟩ ⟨fun w' hQ=>?_⟩).mono ?_
 · refine ⟨?_,by omega,tb.below hb,kr,fun g hg=>?_,Keeps.below hb,kd,ks,kt,ko,.inl rfl⟩
   · exact (st.widen fun k hk=>by
      rcases hk with (hk | hk) | hk | hk
      · exact .inl hk
      · exact .inr hk.1
      · exact .inr (by omega)
      · have hk2:w.heap.size+3=k:=by injection hk
        exact .inr (by omega)).later hb
   · obtain rfl:w.heap.size+3=g:=by injection hg
     refine ⟨?_,by omega⟩
     rintro (h | h)
     · have:=lt _ h;omega
     · omega
 · exact ⟨by have:=h.size;omega,fun g hg=>(h.nv g hg).2,h.kd,h.ks,h.kt,h.ko,h.own⟩
 · obtain ⟨n,hn⟩ : ∃ n,N - k=n+1:=⟨N - k - 1,by omega⟩
   have hn':N - (k+1)=n:=by omega
   have hus:lvS (solT L) N f ts (k+1)=Tr.add (trF n (halfF (solT L) (lvlF (solT L) f k))) (lvS (solT L) N f ts k):=by
    show Tr.add (trF (N - (k+1)) (halfF (solT L) (lvlF (solT L) f k))) _=_
    rw [hn']
   have hlt : ∀ x,FR (fun x=>Far x∨(w.heap.size≤x∧x<w.heap.size+3)) (w.heap.size+4) v x→x<W.heap.size:=fun x hx=>by
    have:=h.size
    rcases hx with hx | hx | hx
    · have:=hF0 x hx;omega
    · omega
    · exact (h.own.lt x hx).2
   have hmem:trF (n+1) (lvlF (solT L) f k)∈lvS (solT L) N f ts k:=by rw [←hn];exact lvS_mem hT (Nat.le_refl k)
   have hpre:=lvS_pre (s:=solT L) (N:=N) (f:=f) (ts:=ts) (j:=k+1) (k:=N) (by omega)
   have hc:=lv_halve_of (FR (fun x=>Far x∨(w.heap.size≤x∧x<w.heap.size+3)) (w.heap.size+4) v) W W1 mb sb ta tc L hl most (lvS (solT L) N f ts k) h.st hlt h.tb (fun a b c=>.inl (.inl (ft a b c))) hb hm kc hmv (lvS_good hN hf hG k (by omega)) n (by omega) (lvlF (solT L) f k) (lvl_range hf.range k) hmem (by rw [←hus];exact Nat.le_trans hpre.length_le hlen)
   rw [←hus] at hc
   have e1:lvX (solT L) N f ts k=(idT (lvS (solT L) N f ts k) (trF (n+1) (lvlF (solT L) f k)):Int):=by unfold lvX idn;rw [hn]
   have e2:lvX (solT L) N f ts (k+1)=(idT (lvS (solT L) N f ts (k+1)) (trF n (halfF (solT L) (lvlF (solT L) f k))):Int):=by unfold lvX idn;rw [hn'];rfl
   have e3:(N:Int)+2 - (k:Int)=(n:Int)+3:=by omega
   rw [e1,e2,e3]
   refine hc.mono ?_
   rintro e w' ⟨hkp,(⟨g1,g2,g3⟩ | ⟨g1,g2,us,u1,u2,u3,u4⟩)⟩
   · refine .inl ⟨g2,g3,Nat.le_trans h.size hkp.size,h.tb.far hkp (fun a b c=>.inl (.inl (ft a b c))),h.own.farL hkp (fun g hg=>.inr (.inr hg)),h.nv,h.keeps.trans (hkp.less fun x hx=>.inl (.inl hx)),h.kd.far hkp (.inl (.inr ⟨by omega,by omega⟩)),h.ks.far hkp (.inl (.inr ⟨by omega,by omega⟩)),h.kt.far hkp (.inl (.inr ⟨by omega,by omega⟩)),h.ko.far hkp (.inr (.inl rfl)),?_⟩
     exact Tr.fits_trans (lvS_pre (Nat.zero_le k)) (by rw [hus];exact Tr.add_prefix _ _) h.fits g1
   · refine .inr ⟨g2,?_,⟨us,(lvS_pre (Nat.zero_le k)).trans u2,u3.trans hpre,u4.less fun x hx=>.inl (.inl hx)⟩,h.keeps.trans (hkp.less fun x hx=>.inl (.inl hx))⟩
     have p1:=lvS_pre (s:=solT L) (N:=N) (f:=f) (ts:=ts) (Nat.zero_le k)
     have p2:lvS (solT L) N f ts k <+: lvS (solT L) N f ts (k+1):=lvS_pre (Nat.le_succ k)
     exact Tr.not_fits_mono (p1.trans p2) hpre (Tr.not_fits_later p1 p2 g1)
 · have hsz:=h.size
   have hgl : ∀ g,v.ownBlock=some g→w.heap.size≤g∧g<W.heap.size:=h.own.lt
   obtain ⟨gv,hgv⟩ : ∃ g,v.ownBlock=some g:=by
    obtain ⟨g,cap,rfl,-⟩:=h.own.at (by simp)
    exact ⟨g,rfl⟩
   rw [hgv] at hg
   obtain ⟨hv1,hv2⟩:=h.nv gv hgv
   have hpO:w.heap.size+4<w1.heap.size:=by have:=hg.size;omega
   have hg2:=grown_setCell w1 ⟨w.heap.size+4,0,none⟩ v1
   have st1:StoreIs W (fun x=>FR (fun x=>Far x∨(w.heap.size≤x∧x<w.heap.size+3)) (w.heap.size+4) v x∨x=W.heap.size) sb most (lvS (solT L) N f ts (k+1)):=h.st.widen fun x hx=>hx.imp id fun e=>by omega
   have st2:=(st1.apart hg (.inl (.inr (.inr hgv)))).apart hg2 (.inl (.inr (.inl rfl)))
   have hkp:Keeps (fun x=>Far x∨(w.heap.size≤x∧x<w.heap.size+3)) W (w1.setCell ⟨w.heap.size+4,0,none⟩ v1):=(Keeps.grown hg fun g e hf=>by injection e with e;exact hv1 (e ▸ hf)).trans (Keeps.grown hg2 fun g e hf=>by have e2:w.heap.size+4=g:=Option.some.inj e;have:=hF0 g hf;omega)
   have hnv : ∀ g,v1.ownBlock=some g → ¬(Far g∨(w.heap.size≤g∧g<w.heap.size+3))∧g ≠ w.heap.size+4:=fun g hg1=>by
    rcases hwh with e | e
    · exact h.nv g (e ▸ hg1)
    · rw [e] at hg1
      injection hg1 with hg1
      refine ⟨fun hf=>?_,by omega⟩
      have:=hF0 g hf;omega
   refine ⟨st2.less fun x hx=>?_,by have:=hg.size;rw [size_setCell];omega,h.tb.far hkp (fun a b c=>.inl (ft a b c)),?_,hnv,h.keeps.trans (hkp.less fun x hx=>.inl hx),h.kd.far hkp (.inr ⟨by omega,by omega⟩),h.ks.far hkp (.inr ⟨by omega,by omega⟩),h.kt.far hkp (.inr ⟨by omega,by omega⟩),?_,h.fits⟩
   · rcases hx with hx | hx | hx
     · exact .inl (.inl hx)
     · exact .inl (.inr (.inl hx))
     · rcases hwh with e | e
       · exact .inl (.inr (.inr (e ▸ hx)))
       · rw [e] at hx;injection hx with hx;exact .inr hx.symm
   · refine hown.grown hg2 (.inr fun e=>?_)
     exact (hnv _ e).2 rfl
   · exact put1L ((hg.block _ (by omega) (fun e=>hv2 (Option.some.inj e).symm)).trans h.ko) v1
 · obtain ⟨g1,⟨us,u1,u2,u3⟩,g3⟩:=hQ
   have:=u2.length_le
   refine (trim_any w' Far sb most ts us u1 (fun vs a b=>lvS_between hN hf hG N (Nat.le_refl N) vs a (b.trans u2)) (by omega) u3).mono ?_
   rintro e w2 ⟨rfl,s2,k2⟩
   exact ⟨rfl,g1,s2,g3.trans k2⟩
 · rintro e w' (⟨v,rfl,h⟩ | ⟨rfl,g1,g3,g4⟩)
   · refine ⟨h.keeps,.inl ⟨h.fits,v,rfl,h.own,h.st.less fun x hx=>?_⟩⟩
     rcases hx with hx | hx
     · exact .inl (.inl hx)
     · exact .inr (.inr hx)
   · exact ⟨g4,.inr ⟨g1,rfl,g3⟩⟩
end
section
open Go.RowKit Go.Sort Go.Maps
def sg0 (x:Int):Int:=bits .xor .u32 (bits .xor .u32 (rot x 7) (rot x 18)) (x / 2 ^ 3)
def sg1 (x:Int):Int:=bits .xor .u32 (bits .xor .u32 (rot x 17) (rot x 19)) (x / 2 ^ 10)
def be (bs:List Int) (t:Nat):Nat→Int
 | 0=>0
 | j+1=>be bs t j * 256+bs.getD (4 * t+j) 0
def nxt (l:List Int):Int:=(l.getD (l.length - 16) 0+sg0 (l.getD (l.length - 15) 0)+l.getD (l.length - 7) 0+sg1 (l.getD (l.length - 2) 0)) % 4294967296
def sch (bs:List Int):Nat→List Int
 | 0=>[]
 | n+1=>sch bs n++[if n<16 then be bs n 4 else nxt (sch bs n)]
theorem sch_len (bs:List Int) : ∀ n,(sch bs n).length=n
 | 0=>rfl
 | n+1=>by unfold sch;rw [List.length_append,sch_len bs n];rfl
theorem be_bd {bs:List Int} (hb : ∀ x∈bs,0≤x∧x≤255) (t:Nat) : ∀ j,0≤be bs t j∧be bs t j<256 ^ j
 | 0=>by unfold be;decide
 | j + 1 => by
   have h:=be_bd hb t j
   have hx:0≤bs.getD (4 * t+j) 0∧bs.getD (4 * t+j) 0≤255:=by
    rw [List.getD_eq_getElem?_getD]
    cases h1:bs[4 * t+j]? with
    | none=>exact ⟨Int.le_refl 0,by decide⟩
    | some x=>exact hb x (List.mem_of_getElem? h1)
   unfold be
   rw [Int.pow_succ]
   generalize (256:Int) ^ j=p at *
   omega
theorem or_byte {x y:Int} (hx:0≤x∧x<16777216) (hy:0≤y∧y≤255):bits .or .u32 (x * 256) y=x * 256+y :=
 bits_join .u32 32 (by decide) wraps_u32 8 _ _ (by omega) (by have:(2:Int) ^ 8=256:=(by decide);omega) (by have:(2:Int) ^ 32=4294967296:=(by decide);omega) (by omega) (by have:(2:Int) ^ 8=256:=(by decide);omega) (by have:(2:Int) ^ 32=4294967296:=(by decide);omega)
theorem sched_set (bs:List Int) (t:Nat) (x y:Int) (r:List Int):(sch bs t++x::r).set t y=sch bs t++y::r:=by
 rw [List.set_append_right _ _ (by rw [sch_len];omega),sch_len,Nat.sub_self,List.set_cons_zero]
theorem sched_get (bs:List Int) (t:Nat) (x:Int) (r:List Int):(sch bs t++x::r)[t]? = some x:=by
 rw [List.getElem?_append_right (by rw [sch_len];omega),sch_len,Nat.sub_self];rfl
theorem sched_old (bs:List Int) (t i:Nat) (hi:i<t) (r:List Int):(sch bs t++r)[i]? = some ((sch bs t).getD i 0):=by
 rw [List.getElem?_append_left (by rw [sch_len];exact hi),List.getD_eq_getElem?_getD,List.getElem?_eq_getElem (by rw [sch_len];exact hi)];rfl
theorem rep_cons {t:Nat} (h:t<64):List.replicate (64 - t) (0:Int)=0::List.replicate (63 - t) 0:=by
 rw [show 64 - t=(63 - t)+1 by omega,List.replicate_succ]
structure SchI (w:World) (bs:List Int) (t:Nat) (r:List Int) (wr:World):Prop where
 bel:Below w.heap.size w wr
 kr:Bl wr w.heap.size .u32 (List.replicate 64 0) 188
 kw:Bl wr (w.heap.size+1) .u32 (sch bs t++r) 188
theorem SchI.put {w wr:World} {bs:List Int} {t:Nat} {x:Int} {r:List Int} (h:SchI w bs t (x::r) wr) (y:Int):SchI w bs t (y::r) (wr.setCell ⟨w.heap.size+1,t,none⟩ (.int .u32 y)):=by
 refine ⟨h.bel.setCell (by simp) _,h.kr.other _ _ (by simp),?_⟩
 have:=h.kw.put t y
 rwa [sched_set] at this
theorem SchI.later {w wr w':World} {bs:List Int} {t:Nat} {r:List Int} (h:SchI w bs t r wr) (hb:Below wr.heap.size wr w'):SchI w bs t r w':=⟨h.bel.trans (hb.mono h.bel.size),h.kr.later hb,h.kw.later hb⟩
theorem SchI.next {w wr:World} {bs:List Int} {t:Nat} {x:Int} {r:List Int} (h:SchI w bs t (x::r) wr) (hx:x=if t<16 then be bs t 4 else nxt (sch bs t)):SchI w bs (t+1) r wr:=by
 refine ⟨h.bel,h.kr,?_⟩
 have e:sch bs (t+1)++r=sch bs t++x::r:=by
  rw [hx,sch,List.append_assoc];rfl
 rw [e];exact h.kw
set_option maxRecDepth 100000 in
theorem sched_any (a:Option Addr) (cap:Nat) (bs:List Int) (hn:bs.length=64) (hcap:64≤cap) (hb : ∀ x∈bs,0≤x∧x≤255) (w:World) (hs:Sl w .u8 a bs) :
 Calls Tryz.prog 178 #[.slice a 64 cap] w fun e w'=>e = .returned (arrV .u32 (sch bs 64))∧Below w.heap.size w w':=by
 have Hs:=Bx.mk hs
 have Hb:=Bx.mk hb
 have Hn:=Bx.mk hn
 obtain ⟨x0,hx0⟩ : ∃ x,bs[0]? = some x:=⟨_,List.getElem?_eq_getElem (by omega)⟩
 obtain ⟨pb,po,rfl,-⟩:=hs 0 x0 hx0
 clear hs hb hn hx0
 go_enter Tryz.func178,Tryz.ntmps178
 go_wp2_with fail
 generalize hW:World.alloc (World.alloc w _) _=W
 have HI:Bx (SchI w bs 0 (List.replicate (64 - 0) 0) W):=⟨by rw [←hW];exact ((Below.refl _ _).alloc (Nat.le_refl _) _).alloc (by simp) _,by rw [←hW];exact blk_old (blk_new _ _ _ (by simp)),by rw [←hW];exact blk_new _ _ _ (by simp)⟩
 clear hW
 go_loopw [11] (fun v11 wr => ∃ t:Nat,t≤64∧v11 = .int .i64 t∧Bx (SchI w bs t (List.replicate (64 - t) 0) wr)) (fun i _=>64 - (intOf i).toNat)
 case atStart=>exact ⟨0,Nat.zero_le _,rfl,HI⟩
 case round =>
  clear HI
  obtain ⟨t,ht,rfl,HI⟩:=hrel
  by_cases hlt:t<64
  · have t0:decide ((t:Int)<64)=true:=by simp;omega
    rw [rep_cons hlt] at HI
    generalize hr:List.replicate (63 - t) (0:Int)=r at *
    have hr:=Bx.mk hr
    by_cases h16:t<16
    · have t1:decide ((t:Int)<16)=true:=by simp;omega
      have h4:4 * t+4 - 4 * t=4:=by omega
      go_wp2_with fail
      have HJ:Bx (SchI w bs t (be bs t 0::r) wr):=HI
      go_loopw [24] (fun v24 wj => ∃ j:Nat,j≤4∧v24 = .int .i64 j∧Bx (SchI w bs t (be bs t j::r) wj)) (fun i _=>4 - (intOf i).toNat)
      case atStart=>exact ⟨0,Nat.zero_le _,rfl,HJ⟩
      case round =>
       clear HI HJ
       obtain ⟨j,hj,rfl,HJ⟩:=hrel
       by_cases hlt4:j<4
       · have t2:decide ((j:Int)<4)=true:=by simp;omega
         have b1:(0:Int)≤(j:Int):=by omega
         have b2:(j:Int)<4:=by omega
         have b3:(0:Int)≤(t:Int):=by omega
         have b4:(t:Int)<64:=by omega
         obtain ⟨x,hx⟩ : ∃ x,bs[4 * t+j]? = some x:=⟨_,List.getElem?_eq_getElem (by have:=Hn.out;omega)⟩
         obtain ⟨pb',po',he,hck⟩:=(Hs.out.below HJ.out.bel) (4 * t+j) x hx
         simp only [Option.some.injEq,Addr.mk.injEq,and_true] at he
         obtain ⟨rfl,rfl⟩:=he
         rw [←Nat.add_assoc] at hck
         have hxb:=Hb.out x (List.mem_of_getElem? hx)
         have hbd:=be_bd Hb.out t j
         have hbd2:be bs t j<16777216:=Int.lt_of_lt_of_le hbd.2 (by
          rcases (show j=0∨j=1∨j=2∨j=3 by omega) with rfl | rfl | rfl | rfl <;> decide)
         have e0:be bs t (j+1)=be bs t j * 256+x:=by
          rw [be,List.getD_eq_getElem?_getD,hx];rfl
         have e2:bits .or .u32 (be bs t j * 256) x=be bs t (j+1):=by rw [e0];exact or_byte ⟨hbd.1,hbd2⟩ hxb
         have e1:be bs t j * 256 % 4294967296=be bs t j * 256:=by omega
         have cw:=HJ.out.kw.cell (sched_get bs t (be bs t j) r)
         have fw:=HJ.out.kw.frozen t
         have HJ2:=Bx.mk (HJ.out.put (be bs t (j+1)))
         clear HJ e0 hbd hbd2 hx
         generalize hy:be bs t (j+1)=y' at *
         have hy:=Bx.mk hy
         generalize be bs t j=y at *
         go_wp2_with fail
         go_roundw
         case rel=>exact ⟨j+1,by omega,by go_num,by rw [hy.out];exact HJ2⟩
         case measure=>simp [intOf];omega
       · obtain rfl:j=4:=by omega
         have t2:decide (((4:Nat):Int)<4)=false:=by decide
         have HI2:=Bx.mk (HJ.out.next (by rw [if_pos h16]))
         clear HJ
         go_wp2_with fail
         go_roundw
         case rel=>exact ⟨t+1,by omega,by go_num,by rw [show 64 - (t+1)=63 - t by omega,hr.out];exact HI2⟩
         case measure=>simp [intOf];omega
    · have t1:decide ((t:Int)<16)=false:=by simp;omega
      have n1:(t:Int) - 15=((t - 15:Nat):Int):=by omega
      have n2:(t:Int) - 2=((t - 2:Nat):Int):=by omega
      have n3:(t:Int) - 16=((t - 16:Nat):Int):=by omega
      have n4:(t:Int) - 7=((t - 7:Nat):Int):=by omega
      have l1:((t - 15:Nat):Int)<64:=by omega
      have l2:((t - 2:Nat):Int)<64:=by omega
      have l3:((t - 16:Nat):Int)<64:=by omega
      have l4:((t - 7:Nat):Int)<64:=by omega
      have l5:(t:Int)<64:=by omega
      have hnx:Bx (nxt (sch bs t)=((sch bs t).getD (t - 16) 0+sg0 ((sch bs t).getD (t - 15) 0)+(sch bs t).getD (t - 7) 0+sg1 ((sch bs t).getD (t - 2) 0)) % 4294967296):=⟨by unfold nxt;rw [sch_len]⟩
      have k1:=HI.out.kw.cell (sched_old bs t (t - 15) (by omega) (0::r))
      have k2:=HI.out.kw.cell (sched_old bs t (t - 2) (by omega) (0::r))
      have k3:=HI.out.kw.cell (sched_old bs t (t - 16) (by omega) (0::r))
      have k4:=HI.out.kw.cell (sched_old bs t (t - 7) (by omega) (0::r))
      have k1:=Bx.mk k1
      have k2:=Bx.mk k2
      have k3:=Bx.mk k3
      have k4:=Bx.mk k4
      generalize (sch bs t).getD (t - 15) 0=x1 at *
      generalize (sch bs t).getD (t - 2) 0=x2 at *
      generalize (sch bs t).getD (t - 16) 0=x3 at *
      generalize (sch bs t).getD (t - 7) 0=x4 at *
      go_wp2_with fail
      have c1 : ∀ dk osk,(grow (redrawn wr dk) osk).cell? ⟨w.heap.size+1,t - 15,none⟩=some (.int .u32 x1):=cell_regrown k1.out
      have c2 : ∀ dk osk,(grow (redrawn wr dk) osk).cell? ⟨w.heap.size+1,t - 2,none⟩=some (.int .u32 x2):=cell_regrown k2.out
      refine wp_region_quiet_below (by kernel_rfl) (by kernel_rfl) ?_
      repeat (first | go_big_quiet_step (fail) | quiet_step (fail))
      refine wpQuiet_nil ?_
      rintro _ ⟨⟨dq,osq⟩,rfl⟩
      have hb0:=below_regrown wr dq osq
      have HI2:=Bx.mk (HI.out.later hb0)
      replace k3:=Bx.mk (cell_later hb0 k3.out)
      replace k4:=Bx.mk (cell_later hb0 k4.out)
      clear c1 c2 HI hb0 k1 k2
      generalize grow (redrawn wr dq) osq=w1 at *
      go_wp2_with fail
      have hx:Bx (bits .xor .u32 (bits .xor .u32 (rot x1 7) (rot x1 18)) (x1 / 8)=sg0 x1):=⟨rfl⟩
      have hy:Bx (bits .xor .u32 (bits .xor .u32 (rot x2 17) (rot x2 19)) (x2 / 1024)=sg1 x2):=⟨rfl⟩
      have q1:=Bx.mk fun W=>rotl_any x1 7 (by decide) W
      have q2:=Bx.mk fun W=>rotl_any x1 18 (by decide) W
      have q3:=Bx.mk fun W=>rotl_any x2 17 (by decide) W
      have q4:=Bx.mk fun W=>rotl_any x2 19 (by decide) W
      generalize rot x1 7=a1 at *
      generalize rot x1 18=a2 at *
      generalize rot x2 17=a3 at *
      generalize rot x2 19=a4 at *
      generalize sg0 x1=s1 at *
      generalize sg1 x2=s2 at *
      refine (q1.out _).mono ?_
      rintro _ _ ⟨rfl,rfl⟩
      go_wp2_with fail
      refine (q2.out _).mono ?_
      rintro _ _ ⟨rfl,rfl⟩
      go_wp2_with fail
      refine (q3.out _).mono ?_
      rintro _ _ ⟨rfl,rfl⟩
      go_wp2_with fail
      refine (q4.out _).mono ?_
      rintro _ _ ⟨rfl,rfl⟩
      have hx:=hx.out
      have hy:=hy.out
      go_wp2_with fail
      have c3 : ∀ dk osk,(grow (redrawn w1 dk) osk).cell? ⟨w.heap.size+1,t - 16,none⟩=some (.int .u32 x3):=cell_regrown k3.out
      have c4 : ∀ dk osk,(grow (redrawn w1 dk) osk).cell? ⟨w.heap.size+1,t - 7,none⟩=some (.int .u32 x4):=cell_regrown k4.out
      refine wp_region_head_below 15 (by kernel_rfl) (by kernel_rfl) ?_
      simp only [List.take_succ_cons,List.take_zero,List.drop_succ_cons,List.drop_zero]
      repeat (first | go_big_quiet_step (fail) | quiet_step (fail))
      refine wpQuiet_nil ?_
      rintro _ ⟨⟨dq,osq⟩,rfl⟩
      have HI3:=Bx.mk (HI2.out.later (below_regrown w1 dq osq))
      clear c3 c4 HI2 k3 k4
      generalize grow (redrawn w1 dq) osq=w2 at *
      have cw:=HI3.out.kw.cell (sched_get bs t 0 r)
      have fw:=HI3.out.kw.frozen t
      have HI4:=Bx.mk ((HI3.out.put (nxt (sch bs t))).next (by rw [if_neg h16]))
      rw [hnx.out] at HI4
      clear HI3 hnx
      go_wp2_with fail
      go_roundw
      case rel=>exact ⟨t+1,by omega,by go_num,by rw [show 64 - (t+1)=63 - t by omega,hr.out];exact HI4⟩
      case measure=>simp [intOf];omega
  · have t0:decide ((t:Int)<64)=false:=by simp;omega
    obtain rfl:t=64:=by omega
    rw [Nat.sub_self,List.replicate_zero] at HI
    have hsz:(((sch bs 64++[]).map (Value.int .u32)).toArray).size=64:=by rw [List.append_nil,List.size_toArray,List.length_map,sch_len]
    have hs2:(((List.replicate 64 (0:Int)).map (Value.int .u32)).toArray).size=(((sch bs 64++[]).map (Value.int .u32)).toArray).size:=by rw [hsz];rfl
    have H1:=Bx.mk (show ∀ cs:Array Value,cs.size=64→(Tryz.prog.info? 188).map (·.size)=some cs.size from fun cs h=>by rw [h];kernel_rfl)
    have hkw:=Bx.mk HI.out.kw
    have hkr:=Bx.mk HI.out.kr
    have hsz:=Bx.mk hsz
    have hs2:=Bx.mk hs2
    go_upto_region 16 with fail
    go_wp2_with (first
     | refine wpList_load_whole rfl _ _ rfl (w.heap.size+1) rfl _ _ hkw.out _ Tryz.underlying188 rfl (H1.out _ hsz.out) ?_
     | refine wpList_store_whole rfl _ _ _ rfl w.heap.size rfl _ _ rfl _ hkr.out (H1.out _ hsz.out) hs2.out (one_ints _ _) ?_)
    refine bodyPost_ret (v:=arrV .u32 (sch bs 64++[])) (results_cell_row rfl _ _ w.heap.size 188 _ (0,0) _ rfl (hkr.out.whole _) Tryz.underlying188 rfl (H1.out _ hsz.out)) rfl ⟨by rw [List.append_nil],below_setRow HI.out.bel (Nat.le_refl _) _⟩
end
section
open Go.RowKit
theorem idx64 (xs:List Int) (k:Nat) (x:Int) (hk:k<64) (hx:xs[k]? = some x) (W:World):(Instr.index 188 (.agg (xs.map (Value.int .u32)).toArray) (.int .i64 (k:Int))).run Tryz.prog W = .ok (.int .u32 x) W:=by
 have hu:=Tryz.underlying188
 have h1 : Tryz.prog.cellsOf 154=1:=by kernel_rfl
 have hc:((xs.map (Value.int .u32)).toArray)[k]? = some (.int .u32 x):=by rw [List.getElem?_toArray,List.getElem?_map,hx];rfl
 have h0:(0:Int)≤(k:Int)∧(k:Int)<64:=by omega
 generalize (xs.map (Value.int .u32)).toArray=cs at *
 simp [Instr.index,run_underlying hu,asIntOf,h0,go_sem]
 rw [if_pos hk,hc]
 rfl
end
end Go.Proofs.YtgnfgblkpnfcnaaGreatDoor
