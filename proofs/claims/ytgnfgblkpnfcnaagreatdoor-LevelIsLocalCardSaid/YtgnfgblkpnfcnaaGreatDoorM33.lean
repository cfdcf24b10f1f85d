/- Lhf, Lhg, Lhp, Lhq, Lhr: joined by program, for one claim. -/
import Derived.Test.YtgnfgblkpnfcnaaGreatDoorM32
import Derived.Test.YtgnfgblkpnfcnaaGreatDoorM28
import Derived.Test.YtgnfgblkpnfcnaaGreatDoorM2
import Derived.Test.YtgnfgblkpnfcnaaGreatDoorM4
import Derived.Shelf.Abstract
import Derived.Test.YtgnfgblkpnfcnaaGreatDoorM29
import Derived.Laws.ResultCell
import Derived.Test.YtgnfgblkpnfcnaaGreatDoorM10
import Derived.Test.YtgnfgblkpnfcnaaGreatDoorM27
set_option linter.unusedVariables false
set_option linter.unusedSimpArgs false
namespace Go.Proofs.YtgnfgblkpnfcnaaGreatDoor
section
open Go.RowKit Go.Sort Go.Maps
open Oct
attribute [local go_sem] Oper.semAt_some
set_option maxRecDepth 100000 in
set_option maxHeartbeats 400000 in
theorem lv_whole (sb:Nat) (n:Nat) (fid:FuncId) (caps:Array Value) (w:World) (P Q Q2:World→Prop)
 (HLen:Bx (Calls Tryz.prog 32 #[.pointer (some ⟨sb,0,none⟩)] w fun e w'=>e = .returned (.int .i64 (n:Int))∧w=w'))
 (HE:Bx (∀ (args:Array Value) W,(callFunc fid args).run Tryz.prog W = .ok (.enter fid args) W))
 (HF:Bx (Calls Tryz.prog fid caps w fun e w'=>(e = .returned (.int .i64 0)∧P w')∨(e = .returned (.int .i64 14)∧Q w')))
 (HT:Bx (∀ w',Q w'→Calls Tryz.prog 102 #[.pointer (some ⟨sb,0,none⟩),(n:Int)] w' fun e w2=>e = .returned (.tuple #[])∧Q2 w2)) :
 Calls Tryz.prog 43 #[.pointer (some ⟨sb,0,none⟩),.func (.func fid) #[] caps] w fun e w'=>(e = .returned (.int .i64 0)∧P w')∨(e = .returned (.int .i64 14)∧Q2 w'):=by
 go_enter Tryz.func43,Tryz.ntmps43
 go_wp2_with fail
 refine HLen.out.mono ?_
 rintro _ _ ⟨rfl,rfl⟩
 go_wp2_with fail
 rw [HE.out _ _]
 refine HF.out.mono ?_
 rintro _ w2 (⟨rfl,hR⟩ | ⟨rfl,hR⟩)
 · have HR:=Bx.mk hR
   clear hR
   go_wp2_with fail
   go_ret
   exact .inl ⟨rfl,HR.out⟩
 · have ht:=Bx.mk (HT.out w2 hR)
   clear hR
   go_wp2_with fail
   refine ht.out.mono ?_
   rintro _ w3 ⟨rfl,hR⟩
   have HR:=Bx.mk hR
   clear hR
   go_wp2_with fail
   go_ret
   exact .inr ⟨rfl,HR.out⟩
theorem put1L {w:World} {g:Nat} {x:Value} {t:TypeId} (h:Bk w g #[x] t) (a:Value):Bk (w.setCell ⟨g,0,none⟩ a) g #[a] t:=by simpa using h.set 0 a
def OfV (B sb:Nat) (ta:Option Addr) (nl tc:Nat) (v:Value) (w:World):Prop := ∃ mb,v = .pointer (some ⟨mb+1,0,none⟩)∧B≤mb∧Bk w (mb+1) #[.pointer (some ⟨sb,0,none⟩),.slice ta nl tc,.map (some mb)] 138∧MapV 140 w mb 0 fun _=>none
theorem OfV.later {B sb:Nat} {ta:Option Addr} {nl tc:Nat} {v:Value} {w w':World} (h:OfV B sb ta nl tc v w) (hb:Below w.heap.size w w'):OfV B sb ta nl tc v w':=by
 obtain ⟨mb,h1,h2,h3,h4⟩:=h
 exact ⟨mb,h1,h2,h3.later hb,h4.of_block (hb.block mb h4.lt)⟩
theorem lv_of_post {B sb:Nat} {ta:Option Addr} {nl tc:Nat} {w1 w2:World} {e:Ending} (hB:B≤w1.heap.size) (h:e = .returned (.pointer (some ⟨w1.heap.size+1,0,none⟩))∧Below w1.heap.size w1 w2∧Bk w2 (w1.heap.size+1) #[.pointer (some ⟨sb,0,none⟩),.slice ta nl tc,.map (some w1.heap.size)] 138∧MapV 140 w2 w1.heap.size 0 (fun _=>none)) :
 e = .returned (.pointer (some ⟨w1.heap.size+1,0,none⟩))∧Below w1.heap.size w1 w2∧OfV B sb ta nl tc (.pointer (some ⟨w1.heap.size+1,0,none⟩)) w2 :=
 ⟨h.1,h.2.1,_,rfl,hB,h.2.2.1,h.2.2.2⟩
end
section
open Go.RowKit Go.Sort Go.Maps
open Oct
theorem lv_halve_of (F:Nat→Prop) (W W1:World) (mb sb:Nat) (ta:Option Addr) (tc:Nat) (L:List Mat) (hl:L.length≤1000000000) (most:Int) (ts:List Tr) (st:StoreIs W F sb most ts) (lt : ∀ k,F k→k<W.heap.size) (tb:SlM W ta L) (ft:L ≠ [] → ∀ b,ta.map (·.block)=some b→F b)
 (hb:Below W.heap.size W W1) (hm:W.heap.size≤mb) (kc:Bk W1 (mb+1) #[.pointer (some ⟨sb,0,none⟩),.slice ta L.length tc,.map (some mb)] 138) (hmv:MapV 140 W1 mb 0 fun _=>none) (hG:Good ts) (n:Nat) (hn:n≤11) (f:Pt→Int) (hf : ∀ p,0≤f p∧f p≤255) (hT:trF (n+1) f∈ts) (hlen:(Tr.add (trF n (halfF (solT L) f)) ts).length≤4000000) :
 Calls Tryz.prog 46 #[.pointer (some ⟨mb+1,0,none⟩),.int .i64 (idT ts (trF (n+1) f):Int),.int .i64 ((n:Int)+3)] W1 fun e w'=>Keeps F W w' ∧
  ((Tr.Fits most ts (Tr.add (trF n (halfF (solT L) f)) ts)∧e=ret2 (idT (Tr.add (trF n (halfF (solT L) f)) ts) (trF n (halfF (solT L) f)):Int) 0∧StoreIs w' F sb most (Tr.add (trF n (halfF (solT L) f)) ts)) ∨
   (¬Tr.Fits most ts (Tr.add (trF n (halfF (solT L) f)) ts)∧e=ret2 0 14 ∧ ∃ us,Good us∧ts <+: us∧us <+: Tr.add (trF n (halfF (solT L) f)) ts∧StoreIs w' F sb most us)):=by
 have hmlt:=hmv.lt
 have hclt:=kc.lt
 refine (lv_halve_rec (mb+1) sb mb ta tc L hl most n hn f hf W1 (fun x=>F x∨x=mb+1) ts [] ⟨kc,tb.below hb,.inr rfl,?_,fun h b hb=>.inl (ft h b hb)⟩ ?_ (Memo.new _ _ hmv) hG ?_ hT hlen).mono ?_
 · rintro (h | h)
   · have:=lt _ h;omega
   · omega
 · exact (st.widen (Far':=FarM (fun x=>F x∨x=mb+1) mb) fun k hk=>by
    rcases hk with (hk | hk) | hk
    · exact .inl hk
    · exact .inr (by omega)
    · exact .inr (by omega)).later hb
 · intro k hk
   have:=hb.size
   rcases hk with hk | hk
   · have:=lt _ hk;omega
   · omega
 · intro e w' hD
   refine ⟨(Keeps.below hb).trans (hD.keeps.less fun k hk=>.inl hk),?_⟩
   rcases hD.way with ⟨h1,h2,h3,-⟩ | ⟨h1,h2,us,g1,g2,g3,g4⟩
   · exact .inl ⟨h1,h2,h3.less fun k hk=>.inl (.inl hk)⟩
   · exact .inr ⟨h1,h2,us,g1,g2,g3,g4.less fun k hk=>.inl (.inl hk)⟩
set_option maxRecDepth 100000 in
set_option maxHeartbeats 1000000 in
theorem lv_Halve_low (sb:Nat) (ta:Option Addr) (nl tc:Nat) (id d:Int) (w:World) (hd:d<3) :
 Calls Tryz.prog 14 #[.pointer (some ⟨sb,0,none⟩),.slice ta nl tc,id,d] w fun e w'=>e=ret2 0 13∧Below w.heap.size w w':=by
 have t0:decide (d<3)=true:=by simpa using hd
 clear hd
 go_enter Tryz.func14,Tryz.ntmps14
 go_upto_region 1 with fail
 generalize hW:World.alloc (World.alloc (World.alloc (World.alloc (World.alloc w _) _) _) _) _=W
 have hB:Below w.heap.size w W:=by rw [←hW];exact (((((Below.refl _ _).alloc (Nat.le_refl _) _).alloc (by simp) _).alloc (by simp;omega) _).alloc (by simp;omega) _).alloc (by simp;omega) _
 have kd:Bk W (w.heap.size+1+1+1) #[d] 3:=bk1 hW
 have kh:Bk W (w.heap.size+1+1+1+1) #[(0:Int)] 3:=bk0 hW
 clear hW
 have c0:=kd.cell 0 rfl
 have c1:=kh.cell 0 rfl
 have f1:=kh.frozen 0
 go_wp2_with fail
 have k2:=put1L kh (.int .i64 0)
 exact bodyPost_ret (v:=.tuple #[(0:Int),(13:Int)]) (by
  rw [results_cell_tmp (p:=8) (u:=9) (ty:=3) rfl]
  have c2:=k2.cell 0 rfl
  go_simp) rfl ⟨rfl,hB.setCell (by simp;omega) _⟩
end
section
open Go.RowKit Go.Sort Go.Maps
open Oct
attribute [local go_sem] Oper.semAt_some
set_option maxRecDepth 100000 in
set_option maxHeartbeats 4000000 in
theorem lv_pyr_clo (pD pS pT pO sb B:Nat) (ta:Option Addr) (nl tc N:Nat) (hN:N≤12) (X:Nat→Int) (w:World) (J:Nat→Nat→Value→World→Prop) (Q:World→Prop)
 (HJ:Bx (∀ k m v W,J k m v W→B≤W.heap.size∧(∀ g,v.ownBlock=some g→g ≠ pO)∧Bk W pD #[.int .i64 ((N:Int)+2)] 3∧Bk W pS #[.pointer (some ⟨sb,0,none⟩)] 31∧Bk W pT #[.slice ta nl tc] 29∧Bk W pO #[v] 26∧Own W B 3 .i64 v ((List.range m).map X)))
 (HJl:Bx (∀ k m v W W',J k m v W→Below W.heap.size W W'→J k m v W')) (H0 : ∃ v,J 0 1 v w)
 (HC:Bx (∀ k v W W1 mb,k<N→J k (k+1) v W→Below W.heap.size W W1→W.heap.size≤mb→Bk W1 (mb+1) #[.pointer (some ⟨sb,0,none⟩),.slice ta nl tc,.map (some mb)] 138→MapV 140 W1 mb 0 (fun _=>none) →
  Calls Tryz.prog 46 #[.pointer (some ⟨mb+1,0,none⟩),.int .i64 (X k),.int .i64 ((N:Int)+2 - k)] W1 fun e w'=>(e=ret2 (X (k+1)) 0∧J (k+1) (k+1) v w')∨(e=ret2 0 14∧Q w')))
 (HA:Bx (∀ k v v1 W w1,J (k+1) (k+1) v W→Own w1 B 3 .i64 v1 ((List.range (k+2)).map X)→W.grownBy w1 v.ownBlock→(v1.ownBlock=v.ownBlock∨v1.ownBlock=some W.heap.size)→J (k+1) (k+2) v1 (w1.setCell ⟨pO,0,none⟩ v1))) :
 Calls Tryz.prog 44 #[.pointer (some ⟨pD,0,none⟩),.pointer (some ⟨pS,0,none⟩),.pointer (some ⟨pT,0,none⟩),.pointer (some ⟨pO,0,none⟩)] w fun e w'=>(e = .returned (.int .i64 0) ∧ ∃ v,J N (N+1) v w')∨(e = .returned (.int .i64 14)∧Q w'):=by
 obtain ⟨v0,hJ0⟩:=H0
 have kd0:=((HJ.out 0 1 v0 w hJ0).2.2.1).cell 0 rfl
 have HI:=Bx.mk hJ0
 clear hJ0
 go_enter Tryz.func44,Tryz.ntmps44
 go_upto_region 2 with fail
 clear kd0
 go_loopw [5] (fun v5 wr => ∃ k:Nat,k≤N∧v5 = .int .i64 ((N:Int)+2 - k) ∧ ∃ v,Bx (J k (k+1) v wr)) (fun i _=>(intOf i).toNat)
 case atStart=>exact ⟨0,Nat.zero_le _,by simp,v0,HI⟩
 case round =>
  clear HI
  obtain ⟨k,hk,rfl,v,hI⟩:=hrel
  by_cases hlt:k<N
  · have t0:decide ((N:Int)+2 - (k:Int) > 2)=true:=by simp;omega
    obtain ⟨hBl,hne,kD,kS,kT,kO,hown⟩:=HJ.out _ _ v wr hI.out
    have hxl:((List.range (k+1)).map X).length=k+1:=by simp
    obtain ⟨g,cap,rfl,hgB,-,hcl,-,-⟩:=hown.at (by rw [hxl];omega)
    rw [hxl] at kO hI
    have hsl:=hcl k (X k) (by simp)
    clear hcl
    have hs1:=Bx.mk (show IntKind.i64.wrap ((k:Int)+1 - 1)=(k:Int) by rw [show (k:Int)+1 - 1=(k:Int) by omega];exact IntWalk.i64_in _ (by omega))
    have hs1b:=Bx.mk (show IntKind.i64.wrap (k:Int)=(k:Int) from IntWalk.i64_in _ (by omega))
    have hk1:=Bx.mk (show (0:Int)≤(k:Int)∧(k:Int)<(k:Int)+1 by omega)
    have hs2:=Bx.mk (show IntKind.i64.wrap ((N:Int)+2 - (k:Int) - 1)=(N:Int)+2 - ((k+1:Nat):Int) by rw [show (N:Int)+2 - (k:Int) - 1=(N:Int)+2 - ((k+1:Nat):Int) by omega];exact IntWalk.i64_in _ (by omega))
    have hcx:=Bx.mk hsl
    have hC:=Bx.mk fun W1 mb h1 h2 h3 h4=>HC.out k _ wr W1 mb hlt hI.out h1 h2 h3 h4
    have hA:=Bx.mk fun v v1 W w1 h1 h2 h3 h4=>HA.out k v v1 W w1 h1 h2 h3 h4
    have hJ2:=Bx.mk fun v W h=>HJ.out (k+1) (k+1) v W h
    have hJl:=Bx.mk fun v W W' h=>HJl.out (k+1) (k+1) v W W' h
    replace kS:=Bx.mk kS
    replace kT:=Bx.mk kT
    replace kO:=Bx.mk kO
    obtain ⟨x0,hx0⟩ : ∃ x,x=X k:=⟨_,rfl⟩
    rw [←hx0] at hcx hC
    obtain ⟨x1,hx1⟩ : ∃ x,x=X (k+1):=⟨_,rfl⟩
    rw [←hx1] at hC
    have hcat:Bx ((List.range (k+1)).map X++[x1]=(List.range (k+2)).map X):=⟨by rw [hx1,List.range_succ (n:=k+1),List.map_append];rfl⟩
    obtain ⟨dd,hdd⟩ : ∃ d:Int,d=(N:Int)+2 - (k:Int):=⟨_,rfl⟩
    rw [←hdd] at t0 hC ⊢
    obtain ⟨d1,hd1⟩ : ∃ d:Int,d=(N:Int)+2 - ((k+1:Nat):Int):=⟨_,rfl⟩
    have hs3:Bx (IntKind.i64.wrap (dd - 1)=d1):=⟨by rw [hd1,hdd];exact hs2.out⟩
    have Hd1:=Bx.mk hd1
    have Hdd:=Bx.mk hdd
    have Hlt:=Bx.mk hlt
    clear hs2 hlt hdd hd1 hx0 hx1 hown hsl hI kD hxl hBl hgB hne HJ HJl HC HA
    go_upto_region 4 with fail
    refine wp_region_relX 10 1 (fun ii v w'=>match ii with
     | 0=>v = .pointer (some ⟨sb,0,none⟩)
     | 1=>v = .slice ta nl tc
     | 2=>OfV wr.heap.size sb ta nl tc v w'
     | 3=>v = .slice (some ⟨g,0,none⟩) ((k+1:Nat)) cap
     | 4=>v = .slice (some ⟨g,0,none⟩) ((k+1:Nat)) cap
     | 5=>v = .int .i64 ((k:Int)+1)
     | 6=>v = .int .i64 (k:Int)
     | 7=>v = .pointer (some ⟨g,k,none⟩)
     | 8=>v = .int .i64 x0
     | _=>v = .int .i64 dd) (by kernel_rfl) (by kernel_rfl) 34 (by kernel_rfl) (by rfl) ?_ ?_ ?_
    · intro ii hi v u1 u2 hb h
      match ii,hi with
      | 0,_=>exact h
      | 1,_=>exact h
      | 2,_=>exact h.later hb
      | 3,_=>exact h
      | 4,_=>exact h
      | 5,_=>exact h
      | 6,_=>exact h
      | 7,_=>exact h
      | 8,_=>exact h
      | 9,_=>exact h
    · intro ii o hi ho ρ w1 hb hc1 hc2 hc3 hk
      match ii,hi with
      | 0, _ =>
        obtain rfl:=Option.some.inj ho
        have g0:ρ (.tmp 1) = .pointer (some ⟨pS,0,none⟩):=hk 1 (by simp [Op.operands,Call.operands])
        have k1:=kS.out.later hb
        have z0:=k1.cell 0 rfl
        clear hk hb hC hA hJ2 hJl
        go_simp
        exact Below.refl _ _
      | 1, _ =>
        obtain rfl:=Option.some.inj ho
        have g0:ρ (.tmp 2) = .pointer (some ⟨pT,0,none⟩):=hk 2 (by simp [Op.operands,Call.operands])
        have k1:=kT.out.later hb
        have z0:=k1.cell 0 rfl
        clear hk hb hC hA hJ2 hJl
        go_simp
        exact Below.refl _ _
      | 2, _ =>
        obtain rfl:=Option.some.inj ho
        have g0:ρ (.tmp 14) = .pointer (some ⟨sb,0,none⟩):=hk 14 (by simp [Op.operands,Call.operands])
        have g1:ρ (.tmp 15) = .slice ta nl tc:=hk 15 (by simp [Op.operands,Call.operands])
        have h4:=(lv_of sb ta nl tc w1).mono fun e w2 h=>(⟨_,lv_of_post hb.size h⟩ : ∃ v,e = .returned v∧Below w1.heap.size w1 w2∧OfV wr.heap.size sb ta nl tc v w2)
        have H4:=Bx.mk h4
        clear h4
        clear hk hb hC hA hJ2 hJl
        go_simp
        all_goals exact H4.out
      | 3, _ =>
        obtain rfl:=Option.some.inj ho
        have g0:ρ (.tmp 3) = .pointer (some ⟨pO,0,none⟩):=hk 3 (by simp [Op.operands,Call.operands])
        have k1:=kO.out.later hb
        have z0:=k1.cell 0 rfl
        clear hk hb hC hA hJ2 hJl
        go_simp
        exact Below.refl _ _
      | 4, _ =>
        obtain rfl:=Option.some.inj ho
        have g0:ρ (.tmp 3) = .pointer (some ⟨pO,0,none⟩):=hk 3 (by simp [Op.operands,Call.operands])
        have k1:=kO.out.later hb
        have z0:=k1.cell 0 rfl
        clear hk hb hC hA hJ2 hJl
        go_simp
        exact Below.refl _ _
      | 5, _ =>
        obtain rfl:=Option.some.inj ho
        have g0:ρ (.tmp 18) = .slice (some ⟨g,0,none⟩) ((k+1:Nat)) cap:=hk 18 (by simp [Op.operands,Call.operands])
        clear hk hb hC hA hJ2 hJl
        go_simp
        exact Below.refl _ _
      | 6, _ =>
        obtain rfl:=Option.some.inj ho
        have g0:ρ (.tmp 19) = .int .i64 ((k:Int)+1):=hk 19 (by simp [Op.operands,Call.operands])
        have hw:=hs1.out
        have hw2:=hs1b.out
        clear hk hb hC hA hJ2 hJl
        go_simp
        exact Below.refl _ _
      | 7, _ =>
        obtain rfl:=Option.some.inj ho
        have g0:ρ (.tmp 17) = .slice (some ⟨g,0,none⟩) ((k+1:Nat)) cap:=hk 17 (by simp [Op.operands,Call.operands])
        have g1:ρ (.tmp 20) = .int .i64 (k:Int):=hk 20 (by simp [Op.operands,Call.operands])
        have b1:=hk1.out
        clear hk hb hC hA hJ2 hJl
        go_simp
        exact Below.refl _ _
      | 8, _ =>
        obtain rfl:=Option.some.inj ho
        have g0:ρ (.tmp 21) = .pointer (some ⟨g,k,none⟩):=hk 21 (by simp [Op.operands,Call.operands])
        have z0:=cell_later hb hcx.out
        clear hk hb hC hA hJ2 hJl
        go_simp
        exact Below.refl _ _
      | 9, _ =>
        obtain rfl:=Option.some.inj ho
        have g0:ρ (.tmp 5) = .int .i64 dd:=hk 5 (by simp [Op.operands,Call.operands])
        clear hk hb hC hA hJ2 hJl
        go_simp
        exact Below.refl _ _
    · intro vs W1 hlen hb hR
      match vs,hlen with
      | [v0,v1,v2,v3,v4,v5,v6,v7,v8,v9],_ =>
      have r0:v0 = .pointer (some ⟨sb,0,none⟩):=hR 0 v0 rfl
      have r1:v1 = .slice ta nl tc:=hR 1 v1 rfl
      have r3:v3 = .slice (some ⟨g,0,none⟩) ((k+1:Nat)) cap:=hR 3 v3 rfl
      have r4:v4 = .slice (some ⟨g,0,none⟩) ((k+1:Nat)) cap:=hR 4 v4 rfl
      have r5:v5 = .int .i64 ((k:Int)+1):=hR 5 v5 rfl
      have r6:v6 = .int .i64 (k:Int):=hR 6 v6 rfl
      have r7:v7 = .pointer (some ⟨g,k,none⟩):=hR 7 v7 rfl
      have r8:v8 = .int .i64 x0:=hR 8 v8 rfl
      have r9:v9 = .int .i64 dd:=hR 9 v9 rfl
      have r2x:=hR 2 v2 rfl
      clear hR
      subst r0 r1 r3 r4 r5 r6 r7 r8 r9
      obtain ⟨mb,rfl,hm1,hm2,hm3⟩:=r2x
      have hc:=Bx.mk (hC.out W1 mb hb hm1 hm2 hm3)
      clear hC hb hm1 hm2 hm3 kS kT kO hcx hs1 hs1b hk1
      simp only [puts,List.take_succ_cons,List.take_zero,List.drop_succ_cons,List.drop_zero,List.map_cons,List.map_nil,List.zip_cons_cons,List.zip_nil_right,List.foldl_cons,List.foldl_nil]
      simp only [Act.put,List.setIfInBounds_toArray,List.set_cons_succ,List.set_cons_zero]
      go_wp2_with fail
      refine hc.out.mono ?_
      rintro e w2 (⟨rfl,hJ⟩ | ⟨rfl,hQ⟩)
      · obtain ⟨hBl,hne,-,-,-,kO,hown⟩:=hJ2.out _ w2 hJ
        have c0:w2.cell? ⟨pO,0,none⟩=some (.slice (some ⟨g,0,none⟩) ((k+1:Nat)) cap):=kO.cell 0 rfl
        have HJ2:=Bx.mk hJ
        have Hown:=Bx.mk hown
        have KO:=Bx.mk kO
        have Hne:=Bx.mk (hne g rfl)
        have hln:((List.range (k+1)).map X).length≤1000000000:=by have:=Hlt.out;simp;omega
        have hw3:=hs3.out
        clear hJ hown hc kO hJ2 hne
        go_wp2_with (first
         | (at_builtin
            refine wpList_append_int rfl _ _ 26 rfl 3 .i64 (.int .i64 0) 8 (by omega) Tryz.underlying26 (by kernel_rfl) rfl B _ ((List.range (k+1)).map X) rfl (Hown.out.alloc _) x1 ⟨w2.heap.size,0,none⟩ 1 rfl (cell_new _ _ _) hln (Nat.le_trans hBl (by simp)) ?_
            intro v1 w1 hown1 hg1 hwh
            rw [hcat.out] at hown1
            obtain ⟨a1,cap1,hv1,-⟩:=hown1.form
            rw [show ((List.range (k+2)).map X).length=k+2 by simp] at hv1
            subst hv1
            have kO1:=(KO.out.alloc (.cells #[x1] 3)).grownO hg1 (fun e=>Hne.out (Option.some.inj e))
            have c1:=kO1.cell 0 rfl
            have f1:=kO1.frozen 0
            have HA2:=Bx.mk (hA.out _ _ _ w1 (hJl.out _ _ _ HJ2.out ((Below.refl _ _).alloc (Nat.le_refl _) _)) hown1 hg1 hwh)
            clear hown1 hg1 hwh kO1))
        have hlt:=Hlt.out
        have e1:=Hd1.out
        have e2:=Hdd.out
        go_roundw
        case rel=>exact ⟨k+1,by omega,by rw [Hd1.out],_,HA2⟩
        case measure=>simp only [intOf];omega
      · have HQ:=Bx.mk hQ
        clear hQ hc
        go_wp2_with fail
        go_ret
        exact .inr ⟨rfl,HQ.out⟩
  · obtain rfl:k=N:=by omega
    have t0:decide ((k:Int)+2 - (k:Int) > 2)=false:=by simp;omega
    clear hlt HC HA HJ HJl
    go_wp2_with fail
    go_ret
    exact .inl ⟨rfl,v,hI.out⟩
end
section
open Go.RowKit Go.Sort Go.Maps
open Oct
set_option maxRecDepth 100000 in
set_option maxHeartbeats 2000000 in
theorem lv_Pyr_walk (sb:Nat) (ta:Option Addr) (nl tc len N:Nat) (hN:N≤12) (X:Nat→Int) (w:World) (J:Nat→Nat→Value→World→Prop) (Q Q2:World→Prop)
 (HLen:Bx (∀ W,Below w.heap.size w W→Calls Tryz.prog 32 #[.pointer (some ⟨sb,0,none⟩)] W fun e w'=>e = .returned (.int .i64 (len:Int))∧W=w'))
 (H0:Bx (∀ W,Below w.heap.size w W→W.heap.size=w.heap.size+5→Bk W w.heap.size #[.pointer (some ⟨sb,0,none⟩)] 31→Bk W (w.heap.size+1) #[.slice ta nl tc] 29→Bk W (w.heap.size+2) #[.int .i64 ((N:Int)+2)] 3→Own W w.heap.size 3 .i64 (.slice (some ⟨w.heap.size+3,0,none⟩) 1 1) [X 0]→Bk W (w.heap.size+4) #[.slice (some ⟨w.heap.size+3,0,none⟩) 1 1] 26→J 0 1 (.slice (some ⟨w.heap.size+3,0,none⟩) 1 1) W))
 (HJ:Bx (∀ k m v W,J k m v W→w.heap.size≤W.heap.size∧(∀ g,v.ownBlock=some g→g ≠ w.heap.size+4)∧Bk W (w.heap.size+2) #[.int .i64 ((N:Int)+2)] 3∧Bk W w.heap.size #[.pointer (some ⟨sb,0,none⟩)] 31∧Bk W (w.heap.size+1) #[.slice ta nl tc] 29∧Bk W (w.heap.size+4) #[v] 26∧Own W w.heap.size 3 .i64 v ((List.range m).map X)))
 (HJl:Bx (∀ k m v W W',J k m v W→Below W.heap.size W W'→J k m v W'))
 (HC:Bx (∀ k v W W1 mb,k<N→J k (k+1) v W→Below W.heap.size W W1→W.heap.size≤mb→Bk W1 (mb+1) #[.pointer (some ⟨sb,0,none⟩),.slice ta nl tc,.map (some mb)] 138→MapV 140 W1 mb 0 (fun _=>none) →
  Calls Tryz.prog 46 #[.pointer (some ⟨mb+1,0,none⟩),.int .i64 (X k),.int .i64 ((N:Int)+2 - k)] W1 fun e w'=>(e=ret2 (X (k+1)) 0∧J (k+1) (k+1) v w')∨(e=ret2 0 14∧Q w')))
 (HA:Bx (∀ k v v1 W w1,J (k+1) (k+1) v W→Own w1 w.heap.size 3 .i64 v1 ((List.range (k+2)).map X)→W.grownBy w1 v.ownBlock→(v1.ownBlock=v.ownBlock∨v1.ownBlock=some W.heap.size)→J (k+1) (k+2) v1 (w1.setCell ⟨w.heap.size+4,0,none⟩ v1)))
 (HT:Bx (∀ w',Q w'→Calls Tryz.prog 102 #[.pointer (some ⟨sb,0,none⟩),(len:Int)] w' fun e w2=>e = .returned (.tuple #[])∧Q2 w2)) :
 Calls Tryz.prog 12 #[.pointer (some ⟨sb,0,none⟩),.slice ta nl tc,.int .i64 (X 0),.int .i64 ((N:Int)+2)] w fun e w'=>(∃ v,e = .returned (.tuple #[v,(0:Int)])∧J N (N+1) v w')∨(e = .returned (.tuple #[.slice none 0 0,(14:Int)])∧Q2 w'):=by
 go_enter Tryz.func12,Tryz.ntmps12
 go_upto_region 2 with fail
 generalize hW:World.alloc (World.alloc (World.alloc (World.alloc (World.alloc w _) _) _) _) _=W
 have hB:Below w.heap.size w W:=by rw [←hW];exact (((((Below.refl _ _).alloc (Nat.le_refl _) _).alloc (by simp) _).alloc (by simp;omega) _).alloc (by simp;omega) _).alloc (by simp;omega) _
 have hsz:W.heap.size=w.heap.size+5:=by rw [←hW];simp
 have ks:Bk W w.heap.size #[.pointer (some ⟨sb,0,none⟩)] 31:=by rw [←hW];exact blk_old (blk_old (blk_old (blk_old (blk_new _ _ _ (by simp)))))
 have kt:Bk W (w.heap.size+1) #[.slice ta nl tc] 29:=by rw [←hW];exact blk_old (blk_old (blk_old (blk_new _ _ _ (by simp))))
 have kd:Bk W (w.heap.size+2) #[.int .i64 ((N:Int)+2)] 3:=bk2 hW
 have kr:Own W w.heap.size 3 .i64 (.slice (some ⟨w.heap.size+3,0,none⟩) 1 1) [X 0]:=by
  rw [←hW]
  refine Own.alloc ?_ _
  have h:=Own.lit (((w.alloc (.cells #[.pointer (some ⟨sb,0,none⟩)] 31)).alloc (.cells #[.slice ta nl tc] 29)).alloc (.cells #[.int .i64 ((N:Int)+2)] 3)) w.heap.size 3 .i64 #[.int .i64 (X 0)] [X 0] 1 (by simp;omega) (by decide) rfl rfl
  simpa using h
 have ko:Bk W (w.heap.size+4) #[.slice (some ⟨w.heap.size+3,0,none⟩) 1 1] 26:=bk0 hW
 clear hW
 have hj:=H0.out W hB hsz ks kt kd kr ko
 have hw:=Bx.mk (lv_whole sb len 44 #[.pointer (some ⟨w.heap.size+1+1,0,none⟩),.pointer (some ⟨w.heap.size,0,none⟩),.pointer (some ⟨w.heap.size+1,0,none⟩),.pointer (some ⟨w.heap.size+1+1+1+1,0,none⟩)] W
  (fun w' => ∃ v,J N (N+1) v w') Q Q2 ⟨HLen.out W hB⟩ ⟨enters_of Tryz.func44 rfl rfl⟩
  ⟨lv_pyr_clo (w.heap.size+2) w.heap.size (w.heap.size+1) (w.heap.size+4) sb w.heap.size ta nl tc N hN X W J Q HJ HJl ⟨_,hj⟩ HC HA⟩ HT)
 have c0:=ks.cell 0 rfl
 clear ks kt kd kr ko hB hsz hj HLen H0 HC HA HJl HT
 go_wp2_with fail
 refine hw.out.mono ?_
 rintro _ w2 (⟨rfl,v,hJ⟩ | ⟨rfl,hQ⟩)
 · obtain ⟨-,-,-,-,-,ko,-⟩:=HJ.out _ _ _ _ hJ
   have c1:w2.cell? ⟨w.heap.size+1+1+1+1,0,none⟩=some v:=ko.cell 0 rfl
   have H:=Bx.mk hJ
   clear hw hJ HJ ko
   go_wp2_with fail
   go_ret2
   exact .inl ⟨v,rfl,H.out⟩
 · have HQ:=Bx.mk hQ
   clear hw hQ HJ
   go_wp2_with fail
   go_ret2
   exact .inr ⟨rfl,HQ.out⟩
end
section
open Go.RowKit Go.Sort Go.Maps
open Oct
theorem Own.farL {w w':World} {Far:Nat→Prop} {B:Nat} {e:TypeId} {k:IntKind} {v:Value} {xs:List Int} (h:Own w B e k v xs) (hk:Keeps Far w w') (hf : ∀ g,v.ownBlock=some g→Far g):Own w' B e k v xs:=by
 refine ⟨h.1,?_⟩
 rcases h.2 with hn | ⟨g,cap,cur,rfl,hb,hgg,rest⟩
 · exact .inl hn
 · exact .inr ⟨g,cap,cur,rfl,hb,by rw [hk.block g (hf g rfl) (Array.getElem?_eq_some_iff.1 hgg).1];exact hgg,rest⟩
theorem half_range {s:Int→Bool} {f:Pt→Int} (hf : ∀ p,0≤f p∧f p≤255) : ∀ p,0≤halfF s f p∧halfF s f p≤255:=fun p=>by
 obtain ⟨q,e,_⟩:=mem_eight (half_spec s f p).mem
 rw [e];exact hf q
theorem lvl_range {s:Int→Bool} {f:Pt→Int} (hf : ∀ p,0≤f p∧f p≤255) : ∀ k p,0≤lvlF s f k p∧lvlF s f k p≤255
 | 0=>hf
 | k+1=>half_range (lvl_range hf k)
theorem lvS_between {s:Int→Bool} {N:Nat} {f:Pt→Int} (hN:N≤12) (hf:FnC N f) {ts:List Tr} (hG:Good ts) : ∀ k,k≤N→Between ts (lvS s N f ts k)
 | 0,_=>Between.same hG
 | k+1,hk=>(lvS_between hN hf hG k (by omega)).trans (between_add _ (lvS_good hN hf hG k (by omega)) (wf_can (lvl_fn hf (k+1) hk).range _ _ (by omega))) (addn_pre _ _ _)
noncomputable def lvX (s:Int→Bool) (N:Nat) (f:Pt→Int) (ts:List Tr) (k:Nat):Int:=idn (lvS s N f ts k) (N - k) (lvlF s f k)
def FR (F0:Nat→Prop) (pO:Nat) (v:Value):Nat→Prop:=fun x=>F0 x∨x=pO∨v.ownBlock=some x
structure PJ (w:World) (Far:Nat→Prop) (sb:Nat) (most:Int) (ta:Option Addr) (tc:Nat) (L:List Mat) (N:Nat) (f:Pt→Int) (ts:List Tr) (k m:Nat) (v:Value) (W:World):Prop where
 st:StoreIs W (FR (fun x=>Far x∨(w.heap.size≤x∧x<w.heap.size+3)) (w.heap.size+4) v) sb most (lvS (solT L) N f ts k)
 size:w.heap.size+5≤W.heap.size
 tb:SlM W ta L
 own:Own W w.heap.size 3 .i64 v ((List.range m).map (lvX (solT L) N f ts))
 nv : ∀ g,v.ownBlock=some g → ¬(Far g∨(w.heap.size≤g∧g<w.heap.size+3))∧g ≠ w.heap.size+4
 keeps:Keeps Far w W
 kd:Bk W (w.heap.size+2) #[.int .i64 ((N:Int)+2)] 3
 ks:Bk W w.heap.size #[.pointer (some ⟨sb,0,none⟩)] 31
 kt:Bk W (w.heap.size+1) #[.slice ta L.length tc] 29
 ko:Bk W (w.heap.size+4) #[v] 26
 fits:Tr.Fits most ts (lvS (solT L) N f ts k)
theorem PJ.later {w W W':World} {Far:Nat→Prop} {sb:Nat} {most:Int} {ta:Option Addr} {tc:Nat} {L:List Mat} {N:Nat} {f:Pt→Int} {ts:List Tr} {k m:Nat} {v:Value} (h:PJ w Far sb most ta tc L N f ts k m v W) (hb:Below W.heap.size W W'):PJ w Far sb most ta tc L N f ts k m v W' :=
 ⟨h.st.later hb,Nat.le_trans h.size hb.size,h.tb.below hb,h.own.below hb,h.nv,h.keeps.trans (Keeps.below hb),h.kd.later hb,h.ks.later hb,h.kt.later hb,h.ko.later hb,h.fits⟩
structure PyrDone (w:World) (Far:Nat→Prop) (sb:Nat) (most:Int) (L:List Mat) (N:Nat) (f:Pt→Int) (ts:List Tr) (e:Ending) (w':World):Prop where
 keeps:Keeps Far w w'
 way:(Tr.Fits most ts (lvS (solT L) N f ts N) ∧ ∃ v,e = .returned (.tuple #[v,(0:Int)])∧Own w' w.heap.size 3 .i64 v ((List.range (N+1)).map (lvX (solT L) N f ts))∧StoreIs w' (fun x=>Far x∨v.ownBlock=some x) sb most (lvS (solT L) N f ts N)) ∨
  (¬Tr.Fits most ts (lvS (solT L) N f ts N)∧e = .returned (.tuple #[.slice none 0 0,(14:Int)])∧StoreIs w' Far sb most ts)
set_option maxHeartbeats 1000000 in
theorem lv_Pyramid (w:World) (Far:Nat→Prop) (sb:Nat) (ta:Option Addr) (tc:Nat) (L:List Mat) (hl:L.length≤1000000000) (most:Int) (ts:List Tr) (st:StoreIs w Far sb most ts) (lt : ∀ k,Far k→k<w.heap.size) (tb:SlM w ta L) (ft:L ≠ [] → ∀ b,ta.map (·.block)=some b→Far b)
 (hG:Good ts) (N:Nat) (hN:N≤12) (f:Pt→Int) (hf:FnC N f) (hT:trF N f∈ts) (hlen:(lvS (solT L) N f ts N).length≤4000000) :
 Calls Tryz.prog 12 #[.pointer (some ⟨sb,0,none⟩),.slice ta L.length tc,.int .i64 (idn ts N f),.int .i64 ((N:Int)+2)] w (PyrDone w Far sb most L N f ts):=by
 have hF0 : ∀ k,(Far k∨(w.heap.size≤k∧k<w.heap.size+3))→k<w.heap.size+3:=fun k hk=>by
  rcases hk with hk | hk
  · have:=lt k hk;omega
  · exact hk.2
 have hn4 : ∀ g,some (w.heap.size+4)=some g → ¬Far g:=fun g e hg=>by injection e with e;have:=lt g hg;omega
 refine (lv_Pyr_walk sb ta L.length tc ts.length N hN (lvX (solT L) N f ts) w (PJ w Far sb most ta tc L N f ts)
  (fun w'=>¬Tr.Fits most ts (lvS (solT L) N f ts N)∧(∃ vs,ts <+: vs∧vs <+: lvS (solT L) N f ts N∧StoreIs w' Far sb most vs)∧Keeps Far w w')
  (fun w'=>¬Tr.Fits most ts (lvS (solT L) N f ts N)∧StoreIs w' Far sb most ts∧Keeps Far w w')
  ⟨fun W hb=>len_any Far sb most ts W (st.later hb)⟩ ⟨fun W hb hsz ks kt kd kr ko=>?_⟩ ⟨fun k m v W h=>?_⟩ ⟨fun k m v W W' h hb=>h.later hb⟩ ⟨fun k v W W1 mb hk h hb hm kc hmv=>?_⟩ ⟨fun k v v1 W w1 h hown hg hwh=>?_⟩ ⟨fun w' hQ=>?_⟩).mono ?_
 · refine ⟨?_,by omega,tb.below hb,kr,fun g hg=>?_,Keeps.below hb,kd,ks,kt,ko,.inl rfl⟩
   · exact (st.widen fun k hk=>by
      rcases hk with (hk | hk) | hk | hk
      · exact .inl hk
      · exact .inr hk.1
      · exact .inr (by omega)
      · have hk2:w.heap.size+3=k:=by injection hk
        exact .inr (by omega)).later hb
   · obtain rfl:w.heap.size+3=g:=by injection hg
     refine ⟨?_,by omega⟩
     rintro (h | h)
     · have:=lt _ h;omega
     · omega
 · exact ⟨by have:=h.size;omega,fun g hg=>(h.nv g hg).2,h.kd,h.ks,h.kt,h.ko,h.own⟩
 · obtain ⟨n,hn⟩ : ∃ n,N - k=n+1:=⟨N - k - 1,by omega⟩
   have hn':N - (k+1)=n:=by omega
   have hus:lvS (solT L) N f ts (k+1)=Tr.add (trF n (halfF (solT L) (lvlF (solT L) f k))) (lvS (solT L) N f ts k):=by
    show Tr.add (trF (N - (k+1)) (halfF (solT L) (lvlF (solT L) f k))) _=_
    rw [hn']
   have hlt : ∀ x,FR (fun x=>Far x∨(w.heap.size≤x∧x<w.heap.size+3)) (w.heap.size+4) v x→x<W.heap.size:=fun x hx=>by
    have:=h.size
    rcases hx with hx | hx | hx
    · have:=hF0 x hx;omega
    · omega
    · exact (h.own.lt x hx).2
   have hmem:trF (n+1) (lvlF (solT L) f k)∈lvS (solT L) N f ts k:=by rw [←hn];exact lvS_mem hT (Nat.le_refl k)
   have hpre:=lvS_pre (s:=solT L) (N:=N) (f:=f) (ts:=ts) (j:=k+1) (k:=N) (by omega)
   have hc:=lv_halve_of (FR (fun x=>Far x∨(w.heap.size≤x∧x<w.heap.size+3)) (w.heap.size+4) v) W W1 mb sb ta tc L hl most (lvS (solT L) N f ts k) h.st hlt h.tb (fun a b c=>.inl (.inl (ft a b c))) hb hm kc hmv (lvS_good hN hf hG k (by omega)) n (by omega) (lvlF (solT L) f k) (lvl_range hf.range k) hmem (by rw [←hus];exact Nat.le_trans hpre.length_le hlen)
   rw [←hus] at hc
   have e1:lvX (solT L) N f ts k=(idT (lvS (solT L) N f ts k) (trF (n+1) (lvlF (solT L) f k)):Int):=by unfold lvX idn;rw [hn]
   have e2:lvX (solT L) N f ts (k+1)=(idT (lvS (solT L) N f ts (k+1)) (trF n (halfF (solT L) (lvlF (solT L) f k))):Int):=by unfold lvX idn;rw [hn'];rfl
   have e3:(N:Int)+2 - (k:Int)=(n:Int)+3:=by omega
   rw [e1,e2,e3]
   refine hc.mono ?_
   rintro e w' ⟨hkp,(⟨g1,g2,g3⟩ | ⟨g1,g2,us,u1,u2,u3,u4⟩)⟩
   · refine .inl ⟨g2,g3,Nat.le_trans h.size hkp.size,h.tb.far hkp (fun a b c=>.inl (.inl (ft a b c))),h.own.farL hkp (fun g hg=>.inr (.inr hg)),h.nv,h.keeps.trans (hkp.less fun x hx=>.inl (.inl hx)),h.kd.far hkp (.inl (.inr ⟨by omega,by omega⟩)),h.ks.far hkp (.inl (.inr ⟨by omega,by omega⟩)),h.kt.far hkp (.inl (.inr ⟨by omega,by omega⟩)),h.ko.far hkp (.inr (.inl rfl)),?_⟩
     exact Tr.fits_trans (lvS_pre (Nat.zero_le k)) (by rw [hus];exact Tr.add_prefix _ _) h.fits g1
   · refine .inr ⟨g2,?_,⟨us,(lvS_pre (Nat.zero_le k)).trans u2,u3.trans hpre,u4.less fun x hx=>.inl (.inl hx)⟩,h.keeps.trans (hkp.less fun x hx=>.inl (.inl hx))⟩
     have p1:=lvS_pre (s:=solT L) (N:=N) (f:=f) (ts:=ts) (Nat.zero_le k)
     have p2:lvS (solT L) N f ts k <+: lvS (solT L) N f ts (k+1):=lvS_pre (Nat.le_succ k)
     exact Tr.not_fits_mono (p1.trans p2) hpre (Tr.not_fits_later p1 p2 g1)
 · have hsz:=h.size
   have hgl : ∀ g,v.ownBlock=some g→w.heap.size≤g∧g<W.heap.size:=h.own.lt
   obtain ⟨gv,hgv⟩ : ∃ g,v.ownBlock=some g:=by
    obtain ⟨g,cap,rfl,-⟩:=h.own.at (by simp)
    exact ⟨g,rfl⟩
   rw [hgv] at hg
   obtain ⟨hv1,hv2⟩:=h.nv gv hgv
   have hpO:w.heap.size+4<w1.heap.size:=by have:=hg.size;omega
   have hg2:=grown_setCell w1 ⟨w.heap.size+4,0,none⟩ v1
   have st1:StoreIs W (fun x=>FR (fun x=>Far x∨(w.heap.size≤x∧x<w.heap.size+3)) (w.heap.size+4) v x∨x=W.heap.size) sb most (lvS (solT L) N f ts (k+1)):=h.st.widen fun x hx=>hx.imp id fun e=>by omega
   have st2:=(st1.apart hg (.inl (.inr (.inr hgv)))).apart hg2 (.inl (.inr (.inl rfl)))
   have hkp:Keeps (fun x=>Far x∨(w.heap.size≤x∧x<w.heap.size+3)) W (w1.setCell ⟨w.heap.size+4,0,none⟩ v1):=(Keeps.grown hg fun g e hf=>by injection e with e;exact hv1 (e ▸ hf)).trans (Keeps.grown hg2 fun g e hf=>by have e2:w.heap.size+4=g:=Option.some.inj e;have:=hF0 g hf;omega)
   have hnv : ∀ g,v1.ownBlock=some g → ¬(Far g∨(w.heap.size≤g∧g<w.heap.size+3))∧g ≠ w.heap.size+4:=fun g hg1=>by
    rcases hwh with e | e
    · exact h.nv g (e ▸ hg1)
    · rw [e] at hg1
      injection hg1 with hg1
      refine ⟨fun hf=>?_,by omega⟩
      have:=hF0 g hf;omega
   refine ⟨st2.less fun x hx=>?_,by have:=hg.size;rw [size_setCell];omega,h.tb.far hkp (fun a b c=>.inl (ft a b c)),?_,hnv,h.keeps.trans (hkp.less fun x hx=>.inl hx),h.kd.far hkp (.inr ⟨by omega,by omega⟩),h.ks.far hkp (.inr ⟨by omega,by omega⟩),h.kt.far hkp (.inr ⟨by omega,by omega⟩),?_,h.fits⟩
   · rcases hx with hx | hx | hx
     · exact .inl (.inl hx)
     · exact .inl (.inr (.inl hx))
     · rcases hwh with e | e
       · exact .inl (.inr (.inr (e ▸ hx)))
       · rw [e] at hx;injection hx with hx;exact .inr hx.symm
   · refine hown.grown hg2 (.inr fun e=>?_)
     exact (hnv _ e).2 rfl
   · exact put1L ((hg.block _ (by omega) (fun e=>hv2 (Option.some.inj e).symm)).trans h.ko) v1
 · obtain ⟨g1,⟨us,u1,u2,u3⟩,g3⟩:=hQ
   have:=u2.length_le
   refine (trim_any w' Far sb most ts us u1 (fun vs a b=>lvS_between hN hf hG N (Nat.le_refl N) vs a (b.trans u2)) (by omega) u3).mono ?_
   rintro e w2 ⟨rfl,s2,k2⟩
   exact ⟨rfl,g1,s2,g3.trans k2⟩
 · rintro e w' (⟨v,rfl,h⟩ | ⟨rfl,g1,g3,g4⟩)
   · refine ⟨h.keeps,.inl ⟨h.fits,v,rfl,h.own,h.st.less fun x hx=>?_⟩⟩
     rcases hx with hx | hx
     · exact .inl (.inl hx)
     · exact .inr (.inr hx)
   · exact ⟨g4,.inr ⟨g1,rfl,g3⟩⟩
end
end Go.Proofs.YtgnfgblkpnfcnaaGreatDoor
