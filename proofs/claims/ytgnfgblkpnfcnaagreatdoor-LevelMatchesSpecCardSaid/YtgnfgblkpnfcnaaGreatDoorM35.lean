/- Lhf, Lhg, Lhp, Lhq: joined by program, for one claim. -/
import Derived.Test.YtgnfgblkpnfcnaaGreatDoorM34
import Derived.Shelf.Abstract
import Derived.Laws.ResultCell
set_option maxHeartbeats 4000000
set_option maxRecDepth 100000
set_option linter.unusedVariables false
set_option linter.unusedSimpArgs false
namespace Go.Proofs.YtgnfgblkpnfcnaaGreatDoor
section
open Go.RowKit Go.Sort Go.Maps
open Oct
attribute [local go_sem] Oper.semAt_some
theorem zHS (sb:Nat) (n:Nat) (fid:FuncId) (caps:Array Value) (w:World) (P Q Q2:World→Prop)
 (HLen:Bx (Calls Tryz.prog 32 #[.pointer (some ⟨sb,0,none⟩)] w fun e w'=>e = .returned (.int .i64 (n:Int))∧w=w'))
 (HE:Bx (∀ (args:Array Value) W,(callFunc fid args).run Tryz.prog W = .ok (.enter fid args) W))
 (HF:Bx (Calls Tryz.prog fid caps w fun e w'=>(e = .returned (.int .i64 0)∧P w')∨(e = .returned (.int .i64 14)∧Q w')))
 (HT:Bx (∀ w',Q w'→Calls Tryz.prog 102 #[.pointer (some ⟨sb,0,none⟩),(n:Int)] w' fun e w2=>e = .returned (.tuple #[])∧Q2 w2)) :
 Calls Tryz.prog 43 #[.pointer (some ⟨sb,0,none⟩),.func (.func fid) #[] caps] w fun e w'=>(e = .returned (.int .i64 0)∧P w')∨(e = .returned (.int .i64 14)∧Q2 w'):=by
 go_enter Tryz.func43,Tryz.ntmps43;go_wp2_with fail;refine HLen.out.mono ?_;rintro _ _ ⟨rfl,rfl⟩;go_wp2_with fail;rw [HE.out _ _];refine HF.out.mono ?_;rintro _ w2 (⟨rfl,hR⟩ | ⟨rfl,hR⟩)
 · have HR:=Bx.mk hR;clear hR;go_wp2_with fail;go_ret;exact .inl ⟨rfl,HR.out⟩
 · have ht:=Bx.mk (HT.out w2 hR);clear hR;go_wp2_with fail;refine ht.out.mono ?_;rintro _ w3 ⟨rfl,hR⟩;have HR:=Bx.mk hR;clear hR;go_wp2_with fail;go_ret;exact .inr ⟨rfl,HR.out⟩
theorem zJw {w:World} {g:Nat} {x:Value} {t:TypeId} (h:Bk w g #[x] t) (a:Value):Bk (w.setCell ⟨g,0,none⟩ a) g #[a] t:=by simpa using h.set 0 a
def OfV (B sb:Nat) (ta:Option Addr) (nl tc:Nat) (v:Value) (w:World):Prop := ∃ mb,v = .pointer (some ⟨mb+1,0,none⟩)∧B≤mb∧Bk w (mb+1) #[.pointer (some ⟨sb,0,none⟩),.slice ta nl tc,.map (some mb)] 138∧MapV 140 w mb 0 fun _=>none
theorem OfV.later {B sb:Nat} {ta:Option Addr} {nl tc:Nat} {v:Value} {w w':World} (h:OfV B sb ta nl tc v w) (hb:Below w.heap.size w w'):OfV B sb ta nl tc v w':=by
 obtain ⟨mb,h1,h2,h3,h4⟩:=h;exact ⟨mb,h1,h2,h3.later hb,h4.of_block (hb.block mb h4.lt)⟩
theorem zG7 {B sb:Nat} {ta:Option Addr} {nl tc:Nat} {w1 w2:World} {e:Ending} (hB:B≤w1.heap.size) (h:e = .returned (.pointer (some ⟨w1.heap.size+1,0,none⟩))∧Below w1.heap.size w1 w2∧Bk w2 (w1.heap.size+1) #[.pointer (some ⟨sb,0,none⟩),.slice ta nl tc,.map (some w1.heap.size)] 138∧MapV 140 w2 w1.heap.size 0 (fun _=>none)) :
 e = .returned (.pointer (some ⟨w1.heap.size+1,0,none⟩))∧Below w1.heap.size w1 w2∧OfV B sb ta nl tc (.pointer (some ⟨w1.heap.size+1,0,none⟩)) w2 :=
 ⟨h.1,h.2.1,_,rfl,hB,h.2.2.1,h.2.2.2⟩
theorem zG0 (pS pT pI pD pH sb:Nat) (ta:Option Addr) (nl tc:Nat) (id d:Int) (w:World) (kS:Bk w pS #[.pointer (some ⟨sb,0,none⟩)] 31) (kT:Bk w pT #[.slice ta nl tc] 29) (kI:Bk w pI #[id] 3) (kD:Bk w pD #[d] 3)
 (P:Int→World→Prop) (Q:World→Prop)
 (HC:Bx (∀ W1 mb,Below w.heap.size w W1→w.heap.size≤mb→Bk W1 (mb+1) #[.pointer (some ⟨sb,0,none⟩),.slice ta nl tc,.map (some mb)] 138→MapV 140 W1 mb 0 (fun _=>none)→Calls Tryz.prog 46 #[.pointer (some ⟨mb+1,0,none⟩),id,d] W1 fun e w'=>(∃ v,Bk w' pH #[v] 3)∧((∃ h,e=zLK h 0∧P h w')∨(e=zLK 0 14∧Q w'))))
 (HPs:Bx (∀ h w' W',P h w'→w'.grownBy W' (some pH)→P h W')) (HQs:Bx (∀ w' W',Q w'→w'.grownBy W' (some pH)→Q W')) :
 Calls Tryz.prog 54 #[.pointer (some ⟨pS,0,none⟩),.pointer (some ⟨pT,0,none⟩),.pointer (some ⟨pI,0,none⟩),.pointer (some ⟨pD,0,none⟩),.pointer (some ⟨pH,0,none⟩)] w fun e w'=>(e = .returned (.int .i64 0) ∧ ∃ h:Int,Bk w' pH #[h] 3∧P h w')∨(e = .returned (.int .i64 14)∧Bk w' pH #[(0:Int)] 3∧Q w'):=by
 replace kS:=Bx.mk kS;replace kT:=Bx.mk kT;replace kI:=Bx.mk kI;replace kD:=Bx.mk kD;go_enter Tryz.func54,Tryz.ntmps54;go_wp2_with fail
 refine zOV 5 [5,6,7,8,9,10] (fun ii v w'=>match ii with
  | 0=>v = .pointer (some ⟨sb,0,none⟩)
  | 1=>v = .slice ta nl tc
  | 2=>OfV w.heap.size sb ta nl tc v w'
  | 3=>v = .int .i64 id
  | _=>v = .int .i64 d) (by kernel_rfl) (by kernel_rfl) 16 (by kernel_rfl) (by rfl) ?_ ?_ ?_
 · intro ii hi v u1 u2 hb h
   match ii,hi with
   | 0,_=>exact h
   | 1,_=>exact h
   | 2,_=>exact h.later hb
   | 3,_=>exact h
   | 4,_=>exact h
 · intro ii o hi ho ρ w1 hb hc1 hc2 hc3 hk
   match ii,hi with
   | 0, _ =>
     obtain rfl:=Option.some.inj ho;have g0:ρ (.tmp 0) = .pointer (some ⟨pS,0,none⟩):=hk 0 (by simp [Op.operands,Call.operands])
     have k1:=kS.out.later hb;have z0:=k1.cell 0 rfl;clear hk hb HC HPs HQs;go_simp;exact Below.refl _ _
   | 1, _ =>
     obtain rfl:=Option.some.inj ho;have g0:ρ (.tmp 1) = .pointer (some ⟨pT,0,none⟩):=hk 1 (by simp [Op.operands,Call.operands])
     have k1:=kT.out.later hb;have z0:=k1.cell 0 rfl;clear hk hb HC HPs HQs;go_simp;exact Below.refl _ _
   | 2, _ =>
     obtain rfl:=Option.some.inj ho;have g0:ρ (.tmp 7) = .pointer (some ⟨sb,0,none⟩):=hk 7 (by simp [Op.operands,Call.operands])
     have g1:ρ (.tmp 8) = .slice ta nl tc:=hk 8 (by simp [Op.operands,Call.operands])
     have h4:=(lv_of sb ta nl tc w1).mono fun e w2 h=>(⟨_,zG7 hb.size h⟩ : ∃ v,e = .returned v∧Below w1.heap.size w1 w2∧OfV w.heap.size sb ta nl tc v w2);have H4:=Bx.mk h4;clear h4;clear hk hb HC HPs HQs;go_simp
     all_goals exact H4.out
   | 3, _ =>
     obtain rfl:=Option.some.inj ho;have g0:ρ (.tmp 2) = .pointer (some ⟨pI,0,none⟩):=hk 2 (by simp [Op.operands,Call.operands])
     have k1:=kI.out.later hb;have z0:=k1.cell 0 rfl;clear hk hb HC HPs HQs;go_simp;exact Below.refl _ _
   | 4, _ =>
     obtain rfl:=Option.some.inj ho;have g0:ρ (.tmp 3) = .pointer (some ⟨pD,0,none⟩):=hk 3 (by simp [Op.operands,Call.operands])
     have k1:=kD.out.later hb;have z0:=k1.cell 0 rfl;clear hk hb HC HPs HQs;go_simp;exact Below.refl _ _
 · intro vs W1 hlen hb hR
   match vs,hlen with
   | [v0,v1,v2,v3,v4],_ =>
   have r0:v0 = .pointer (some ⟨sb,0,none⟩):=hR 0 v0 rfl;have r1:v1 = .slice ta nl tc:=hR 1 v1 rfl;have r3:v3 = .int .i64 id:=hR 3 v3 rfl;have r4:v4 = .int .i64 d:=hR 4 v4 rfl;have r2x:=hR 2 v2 rfl;clear hR;subst r0 r1 r3 r4;obtain ⟨mb,rfl,hm1,hm2,hm3⟩:=r2x;have hc:=Bx.mk (HC.out W1 mb hb hm1 hm2 hm3);clear HC hb hm1 hm2 hm3 kS kT kI kD;intro Q0 hQ0;simp only [zKA,List.take_succ_cons,List.take_zero,List.drop_succ_cons,List.drop_zero,List.map_cons,List.map_nil,List.zip_cons_cons,List.zip_nil_right,List.foldl_cons,List.foldl_nil];simp only [List.filterMap_cons,List.filterMap_nil,List.getElem?_toArray,List.getElem?_cons_succ,List.getElem?_cons_zero];go_wp2_with fail;refine hc.out.mono ?_;rintro e w2 ⟨⟨v,kH⟩,(⟨h,rfl,hP⟩ | ⟨rfl,hQ⟩)⟩
   · have c0:=kH.cell 0 rfl;have f0:=kH.frozen 0;have HP:=Bx.mk hP;have KH:=Bx.mk kH;clear hP kH;go_wp2_with fail;go_ret;exact .inl ⟨rfl,h,zJw KH.out _,HPs.out _ _ _ HP.out (zS _ _ _)⟩
   · have c0:=kH.cell 0 rfl;have f0:=kH.frozen 0;have HQ:=Bx.mk hQ;have KH:=Bx.mk kH;clear hQ kH;go_wp2_with fail;go_ret;exact .inr ⟨rfl,zJw KH.out _,HQs.out _ _ HQ.out (zS _ _ _)⟩
end
section
open Go.RowKit Go.Sort Go.Maps
open Oct
theorem zG1 (F:Nat→Prop) (W W1:World) (mb sb:Nat) (ta:Option Addr) (tc:Nat) (L:List Mat) (hl:L.length≤1000000000) (most:Int) (ts:List Tr) (st:StoreIs W F sb most ts) (lt : ∀ k,F k→k<W.heap.size) (tb:SlM W ta L) (ft:L ≠ [] → ∀ b,ta.map (·.block)=some b→F b)
 (hb:Below W.heap.size W W1) (hm:W.heap.size≤mb) (kc:Bk W1 (mb+1) #[.pointer (some ⟨sb,0,none⟩),.slice ta L.length tc,.map (some mb)] 138) (hmv:MapV 140 W1 mb 0 fun _=>none) (hG:Good ts) (n:Nat) (hn:n≤11) (f:Pt→Int) (hf : ∀ p,0≤f p∧f p≤255) (hT:trF (n+1) f∈ts) (hlen:(Tr.add (trF n (zT (zx L) f)) ts).length≤4000000) :
 Calls Tryz.prog 46 #[.pointer (some ⟨mb+1,0,none⟩),.int .i64 (idT ts (trF (n+1) f):Int),.int .i64 ((n:Int)+3)] W1 fun e w'=>Keeps F W w' ∧
  ((Tr.Fits most ts (Tr.add (trF n (zT (zx L) f)) ts)∧e=zLK (idT (Tr.add (trF n (zT (zx L) f)) ts) (trF n (zT (zx L) f)):Int) 0∧StoreIs w' F sb most (Tr.add (trF n (zT (zx L) f)) ts)) ∨
   (¬Tr.Fits most ts (Tr.add (trF n (zT (zx L) f)) ts)∧e=zLK 0 14 ∧ ∃ us,Good us∧ts <+: us∧us <+: Tr.add (trF n (zT (zx L) f)) ts∧StoreIs w' F sb most us)):=by
 have hmlt:=hmv.lt;have hclt:=kc.lt;refine (zG2 (mb+1) sb mb ta tc L hl most n hn f hf W1 (fun x=>F x∨x=mb+1) ts [] ⟨kc,tb.below hb,.inr rfl,?_,fun h b hb=>.inl (ft h b hb)⟩ ?_ (Memo.new _ _ hmv) hG ?_ hT hlen).mono ?_
 · rintro (h | h)
   · have:=lt _ h;omega
   · omega
 · exact (st.widen (Far':=FarM (fun x=>F x∨x=mb+1) mb) fun k hk=>by
    rcases hk with (hk | hk) | hk
    · exact .inl hk
    · exact .inr (by omega)
    · exact .inr (by omega)).later hb
 · intro k hk;have:=hb.size;rcases hk with hk | hk
   · have:=lt _ hk;omega
   · omega
 · intro e w' hD;refine ⟨(Keeps.below hb).trans (hD.keeps.less fun k hk=>.inl hk),?_⟩;rcases hD.way with ⟨h1,h2,h3,-⟩ | ⟨h1,h2,us,g1,g2,g3,g4⟩
   · exact .inl ⟨h1,h2,h3.less fun k hk=>.inl (.inl hk)⟩
   · exact .inr ⟨h1,h2,us,g1,g2,g3,g4.less fun k hk=>.inl (.inl hk)⟩
theorem zGf (sb:Nat) (ta:Option Addr) (nl tc:Nat) (id d:Int) (w:World) (hd:d<3) :
 Calls Tryz.prog 14 #[.pointer (some ⟨sb,0,none⟩),.slice ta nl tc,id,d] w fun e w'=>e=zLK 0 13∧Below w.heap.size w w':=by
 have t0:decide (d<3)=true:=by simpa using hd
 clear hd;go_enter Tryz.func14,Tryz.ntmps14;go_upto_region 1 with fail;generalize hW:World.alloc (World.alloc (World.alloc (World.alloc (World.alloc w _) _) _) _) _=W;have hB:Below w.heap.size w W:=by rw [←hW];exact (((((Below.refl _ _).alloc (Nat.le_refl _) _).alloc (by simp) _).alloc (by simp;omega) _).alloc (by simp;omega) _).alloc (by simp;omega) _
 have kd:Bk W (w.heap.size+1+1+1) #[d] 3:=bk1 hW;have kh:Bk W (w.heap.size+1+1+1+1) #[(0:Int)] 3:=bk0 hW;clear hW;have c0:=kd.cell 0 rfl;have c1:=kh.cell 0 rfl;have f1:=kh.frozen 0;go_wp2_with fail;have k2:=zJw kh (.int .i64 0)
 exact bodyPost_ret (v:=.tuple #[(0:Int),(13:Int)]) (by
  rw [results_cell_tmp (p:=8) (u:=9) (ty:=3) rfl];have c2:=k2.cell 0 rfl;go_simp) rfl ⟨rfl,hB.setCell (by simp;omega) _⟩
theorem zGg (sb:Nat) (ta:Option Addr) (nl tc len:Nat) (id d:Int) (w:World) (hd : ¬d<3) (P:Int→World→Prop) (Q Q2:World→Prop)
 (HLen:Bx (∀ W,Below w.heap.size w W→Calls Tryz.prog 32 #[.pointer (some ⟨sb,0,none⟩)] W fun e w'=>e = .returned (.int .i64 (len:Int))∧W=w'))
 (HC:Bx (∀ W W1 mb,Below w.heap.size w W→W.heap.size=w.heap.size+5→Below W.heap.size W W1→W.heap.size≤mb→Bk W1 (mb+1) #[.pointer (some ⟨sb,0,none⟩),.slice ta nl tc,.map (some mb)] 138→MapV 140 W1 mb 0 (fun _=>none) →
  Calls Tryz.prog 46 #[.pointer (some ⟨mb+1,0,none⟩),id,d] W1 fun e w'=>(∀ k,w.heap.size≤k→k<w.heap.size+5→w'.heap[k]? = W.heap[k]?)∧((∃ h,e=zLK h 0∧P h w')∨(e=zLK 0 14∧Q w'))))
 (HPs:Bx (∀ h w' W',P h w'→w'.grownBy W' (some (w.heap.size+4))→P h W')) (HQs:Bx (∀ w' W',Q w'→w'.grownBy W' (some (w.heap.size+4))→Q W')) (HQ2s:Bx (∀ w' W',Q2 w'→w'.grownBy W' (some (w.heap.size+4))→Q2 W'))
 (HT:Bx (∀ w',Q w'→w.heap.size+4<w'.heap.size→Calls Tryz.prog 102 #[.pointer (some ⟨sb,0,none⟩),(len:Int)] w' fun e w2=>e = .returned (.tuple #[])∧Q2 w2∧w2.heap[w.heap.size+4]? = w'.heap[w.heap.size+4]?)) :
 Calls Tryz.prog 14 #[.pointer (some ⟨sb,0,none⟩),.slice ta nl tc,id,d] w fun e w'=>(∃ h,e=zLK h 0∧P h w')∨(e=zLK 0 14∧Q2 w'):=by
 have t0:decide (d<3)=false:=by simpa using hd
 clear hd;go_enter Tryz.func14,Tryz.ntmps14;go_upto_region 1 with fail;generalize hW:World.alloc (World.alloc (World.alloc (World.alloc (World.alloc w _) _) _) _) _=W;have hB:Below w.heap.size w W:=by rw [←hW];exact (((((Below.refl _ _).alloc (Nat.le_refl _) _).alloc (by simp) _).alloc (by simp;omega) _).alloc (by simp;omega) _).alloc (by simp;omega) _
 have hsz:W.heap.size=w.heap.size+5:=by rw [←hW];simp
 have ks:Bk W w.heap.size #[.pointer (some ⟨sb,0,none⟩)] 31:=by rw [←hW];exact zE (zE (zE (zE (zD _ _ _ (by simp)))))
 have kt:Bk W (w.heap.size+1) #[.slice ta nl tc] 29:=by rw [←hW];exact zE (zE (zE (zD _ _ _ (by simp))))
 have ki:Bk W (w.heap.size+1+1) #[id] 3:=bk2 hW;have kd:Bk W (w.heap.size+1+1+1) #[d] 3:=bk1 hW;have kh:Bk W (w.heap.size+1+1+1+1) #[(0:Int)] 3:=bk0 hW;clear hW
 have hw:=Bx.mk (zHS sb len 54 #[.pointer (some ⟨w.heap.size,0,none⟩),.pointer (some ⟨w.heap.size+1,0,none⟩),.pointer (some ⟨w.heap.size+1+1,0,none⟩),.pointer (some ⟨w.heap.size+1+1+1,0,none⟩),.pointer (some ⟨w.heap.size+1+1+1+1,0,none⟩)] W
  (fun w' => ∃ h:Int,Bk w' (w.heap.size+1+1+1+1) #[h] 3∧P h w') (fun w'=>Bk w' (w.heap.size+1+1+1+1) #[(0:Int)] 3∧Q w') (fun w'=>Bk w' (w.heap.size+1+1+1+1) #[(0:Int)] 3∧Q2 w')
  ⟨HLen.out W hB⟩ ⟨enters_of Tryz.func54 rfl rfl⟩
  ⟨zG0 _ _ _ _ _ sb ta nl tc id d W ks kt ki kd P Q ⟨fun W1 mb h1 h2 h3 h4=>(HC.out W W1 mb hB hsz h1 h2 h3 h4).mono fun e w' h=>⟨⟨_,(h.1 (w.heap.size+1+1+1+1) (by omega) (by omega)).trans kh⟩,h.2⟩⟩ ⟨HPs.out⟩ ⟨HQs.out⟩⟩
  ⟨fun w' h=>(HT.out w' h.2 (Bk.lt h.1)).mono fun e w2 h2=>⟨h2.1,h2.2.2.trans h.1,h2.2.1⟩⟩)
 have c0:=kd.cell 0 rfl;have c1:=ks.cell 0 rfl;clear ks kt ki kd kh hB hsz HLen HC HQs HT;go_wp2_with fail;refine hw.out.mono ?_;rintro _ w2 (⟨rfl,h,kh,hP⟩ | ⟨rfl,kh,hQ⟩)
 · have c2:=kh.cell 0 rfl;have f2:=kh.frozen 0;have HP:=Bx.mk (HPs.out _ _ _ hP (zS w2 ⟨w.heap.size+4,0,none⟩ (.int .i64 h)));have KH:=Bx.mk (zJw kh (.int .i64 h));clear hw hP kh HPs HQ2s;go_wp2_with fail
   exact bodyPost_ret (v:=.tuple #[h,(0:Int)]) (by
    rw [results_cell_tmp (p:=8) (u:=9) (ty:=3) rfl];have c3:=KH.out.cell 0 rfl;go_simp) rfl (.inl ⟨h,rfl,HP.out⟩)
 · have c2:=kh.cell 0 rfl;have f2:=kh.frozen 0;have HQ:=Bx.mk (HQ2s.out _ _ hQ (zS w2 ⟨w.heap.size+4,0,none⟩ (.int .i64 0)));have KH:=Bx.mk (zJw kh (.int .i64 0));clear hw hQ kh HPs HQ2s;go_wp2_with fail
   exact bodyPost_ret (v:=.tuple #[(0:Int),(14:Int)]) (by
    rw [results_cell_tmp (p:=8) (u:=9) (ty:=3) rfl];have c3:=KH.out.cell 0 rfl;go_simp) rfl (.inr ⟨rfl,HQ.out⟩)
theorem zGe (w:World) (Far:Nat→Prop) (sb:Nat) (ta:Option Addr) (tc:Nat) (L:List Mat) (hl:L.length≤1000000000) (most:Int) (ts:List Tr) (st:StoreIs w Far sb most ts) (lt : ∀ k,Far k→k<w.heap.size) (tb:SlM w ta L) (ft:L ≠ [] → ∀ b,ta.map (·.block)=some b→Far b)
 (hG:Good ts) (n:Nat) (hn:n≤11) (f:Pt→Int) (hf : ∀ p,0≤f p∧f p≤255) (hT:trF (n+1) f∈ts) (hlen:(Tr.add (trF n (zT (zx L) f)) ts).length≤4000000) :
 Calls Tryz.prog 14 #[.pointer (some ⟨sb,0,none⟩),.slice ta L.length tc,.int .i64 (idT ts (trF (n+1) f):Int),.int .i64 ((n:Int)+3)] w (Done Far sb most ts (Tr.add (trF n (zT (zx L) f)) ts) (trF n (zT (zx L) f)) w):=by
 have hfh : ∀ p,0≤zT (zx L) f p∧zT (zx L) f p≤255:=fun p=>by
  obtain ⟨q,e,_⟩:=zg (zEy (zx L) f p).mem;rw [e];exact hf q
 have hbw:Between ts (Tr.add (trF n (zT (zx L) f)) ts):=zBa _ hG (zAD hfh n _ (by omega))
 obtain ⟨F,hF⟩ : ∃ F:Nat→Prop,F=fun x=>Far x∨(w.heap.size≤x∧x<w.heap.size+5):=⟨_,rfl⟩;have hFF : ∀ k,Far k→F k:=fun k hk=>by rw [hF];exact .inl hk
 have hF4:F (w.heap.size+4):=by rw [hF];exact .inr (by omega)
 have hn4 : ∀ g,some (w.heap.size+4)=some g → ¬Far g:=fun g e hg=>by injection e with e;have:=lt g hg;omega
 refine (zGg sb ta L.length tc ts.length _ _ w (by omega)
  (fun h w'=>Tr.Fits most ts (Tr.add (trF n (zT (zx L) f)) ts)∧h=(idT (Tr.add (trF n (zT (zx L) f)) ts) (trF n (zT (zx L) f)):Int)∧StoreIs w' F sb most (Tr.add (trF n (zT (zx L) f)) ts)∧Keeps Far w w')
  (fun w'=>¬Tr.Fits most ts (Tr.add (trF n (zT (zx L) f)) ts)∧(∃ us,ts <+: us∧us <+: Tr.add (trF n (zT (zx L) f)) ts∧StoreIs w' F sb most us)∧Keeps Far w w')
  (fun w'=>¬Tr.Fits most ts (Tr.add (trF n (zT (zx L) f)) ts)∧StoreIs w' F sb most ts∧Keeps Far w w')
  ⟨fun W hb=>zGO Far sb most ts W (st.later hb)⟩ ⟨fun W W1 mb h1 h2 h3 h4 h5 h6=>?_⟩ ⟨fun h w' W' hP hg=>?_⟩ ⟨fun w' W' hQ hg=>?_⟩ ⟨fun w' W' hQ hg=>?_⟩ ⟨fun w' hQ h4=>?_⟩).mono ?_
 · have stW:StoreIs W F sb most ts:=(st.widen (Far':=F) fun k hk=>by rw [hF] at hk;rcases hk with hk | hk;exact .inl hk;exact .inr hk.1).later h1
   refine (zG1 F W W1 mb sb ta tc L hl most ts stW (fun k hk=>by rw [hF] at hk;rcases hk with hk | hk;exact Nat.lt_of_lt_of_le (lt k hk) h1.size;omega) (tb.below h1) (fun h b hb=>hFF b (ft h b hb)) h3 h4 h5 h6 hG n hn f hf hT hlen).mono ?_
   rintro e w' ⟨hk,hw⟩;refine ⟨fun k k1 k2=>hk.block k (by rw [hF];exact .inr ⟨k1,k2⟩) (by omega),?_⟩
   have hkf:=(Keeps.below h1).trans (hk.less hFF);rcases hw with ⟨g1,g2,g3⟩ | ⟨g1,g2,us,-,u1,u2,u3⟩
   · exact .inl ⟨_,g2,g1,rfl,g3,hkf⟩
   · exact .inr ⟨g2,g1,⟨us,u1,u2,u3⟩,hkf⟩
 · exact ⟨hP.1,hP.2.1,hP.2.2.1.apart hg hF4,hP.2.2.2.trans (Keeps.grown hg hn4)⟩
 · obtain ⟨g1,⟨us,u1,u2,u3⟩,g3⟩:=hQ;exact ⟨g1,⟨us,u1,u2,u3.apart hg hF4⟩,g3.trans (Keeps.grown hg hn4)⟩
 · exact ⟨hQ.1,hQ.2.1.apart hg hF4,hQ.2.2.trans (Keeps.grown hg hn4)⟩
 · obtain ⟨g1,⟨us,u1,u2,u3⟩,g3⟩:=hQ;have:=u2.length_le;have hwl:=g3.size;refine (zNP w' F sb most ts us u1 (fun vs a b=>hbw vs a (b.trans u2)) (by omega) u3).mono ?_
   rintro e w2 ⟨rfl,s2,k2⟩;exact ⟨rfl,⟨g1,s2,g3.trans (k2.less hFF)⟩,k2.block _ hF4 h4⟩
 · rintro e w' (⟨h,rfl,g1,rfl,g3,g4⟩ | ⟨rfl,g1,g3,g4⟩)
   · exact ⟨g4,g4.size,.inl ⟨g1,rfl,g3.less hFF⟩⟩
   · exact ⟨g4,g4.size,.inr ⟨g1,rfl,g3.less hFF⟩⟩
end
section
open Go.RowKit Go.Sort Go.Maps
open Oct
attribute [local go_sem] Oper.semAt_some
theorem zG9 (pD pS pT pO sb B:Nat) (ta:Option Addr) (nl tc N:Nat) (hN:N≤12) (X:Nat→Int) (w:World) (J:Nat→Nat→Value→World→Prop) (Q:World→Prop)
 (HJ:Bx (∀ k m v W,J k m v W→B≤W.heap.size∧(∀ g,v.ownBlock=some g→g ≠ pO)∧Bk W pD #[.int .i64 ((N:Int)+2)] 3∧Bk W pS #[.pointer (some ⟨sb,0,none⟩)] 31∧Bk W pT #[.slice ta nl tc] 29∧Bk W pO #[v] 26∧Own W B 3 .i64 v ((List.range m).map X)))
 (HJl:Bx (∀ k m v W W',J k m v W→Below W.heap.size W W'→J k m v W')) (H0 : ∃ v,J 0 1 v w)
 (HC:Bx (∀ k v W W1 mb,k<N→J k (k+1) v W→Below W.heap.size W W1→W.heap.size≤mb→Bk W1 (mb+1) #[.pointer (some ⟨sb,0,none⟩),.slice ta nl tc,.map (some mb)] 138→MapV 140 W1 mb 0 (fun _=>none) →
  Calls Tryz.prog 46 #[.pointer (some ⟨mb+1,0,none⟩),.int .i64 (X k),.int .i64 ((N:Int)+2 - k)] W1 fun e w'=>(e=zLK (X (k+1)) 0∧J (k+1) (k+1) v w')∨(e=zLK 0 14∧Q w')))
 (HA:Bx (∀ k v v1 W w1,J (k+1) (k+1) v W→Own w1 B 3 .i64 v1 ((List.range (k+2)).map X)→W.grownBy w1 v.ownBlock→(v1.ownBlock=v.ownBlock∨v1.ownBlock=some W.heap.size)→J (k+1) (k+2) v1 (w1.setCell ⟨pO,0,none⟩ v1))) :
 Calls Tryz.prog 44 #[.pointer (some ⟨pD,0,none⟩),.pointer (some ⟨pS,0,none⟩),.pointer (some ⟨pT,0,none⟩),.pointer (some ⟨pO,0,none⟩)] w fun e w'=>(e = .returned (.int .i64 0) ∧ ∃ v,J N (N+1) v w')∨(e = .returned (.int .i64 14)∧Q w'):=by
 obtain ⟨v0,hJ0⟩:=H0;have kd0:=((HJ.out 0 1 v0 w hJ0).2.2.1).cell 0 rfl;have HI:=Bx.mk hJ0;clear hJ0;go_enter Tryz.func44,Tryz.ntmps44;go_upto_region 2 with fail;clear kd0
 go_loopw [5] (fun v5 wr => ∃ k:Nat,k≤N∧v5 = .int .i64 ((N:Int)+2 - k) ∧ ∃ v,Bx (J k (k+1) v wr)) (fun i _=>(intOf i).toNat)
 case atStart=>exact ⟨0,Nat.zero_le _,by simp,v0,HI⟩
 case round =>
  clear HI;obtain ⟨k,hk,rfl,v,hI⟩:=hrel;by_cases hlt:k<N
  · have t0:decide ((N:Int)+2 - (k:Int) > 2)=true:=by simp;omega
    obtain ⟨hBl,hne,kD,kS,kT,kO,hown⟩:=HJ.out _ _ v wr hI.out;have hxl:((List.range (k+1)).map X).length=k+1:=by simp
    obtain ⟨g,cap,rfl,hgB,-,hcl,-,-⟩:=hown.at (by rw [hxl];omega)
    rw [hxl] at kO hI;have hsl:=hcl k (X k) (by simp)
    clear hcl;have hs1:=Bx.mk (show IntKind.i64.wrap ((k:Int)+1 - 1)=(k:Int) by rw [show (k:Int)+1 - 1=(k:Int) by omega];exact IntWalk.i64_in _ (by omega))
    have hs1b:=Bx.mk (show IntKind.i64.wrap (k:Int)=(k:Int) from IntWalk.i64_in _ (by omega))
    have hk1:=Bx.mk (show (0:Int)≤(k:Int)∧(k:Int)<(k:Int)+1 by omega)
    have hs2:=Bx.mk (show IntKind.i64.wrap ((N:Int)+2 - (k:Int) - 1)=(N:Int)+2 - ((k+1:Nat):Int) by rw [show (N:Int)+2 - (k:Int) - 1=(N:Int)+2 - ((k+1:Nat):Int) by omega];exact IntWalk.i64_in _ (by omega))
    have hcx:=Bx.mk hsl;have hC:=Bx.mk fun W1 mb h1 h2 h3 h4=>HC.out k _ wr W1 mb hlt hI.out h1 h2 h3 h4;have hA:=Bx.mk fun v v1 W w1 h1 h2 h3 h4=>HA.out k v v1 W w1 h1 h2 h3 h4;have hJ2:=Bx.mk fun v W h=>HJ.out (k+1) (k+1) v W h;have hJl:=Bx.mk fun v W W' h=>HJl.out (k+1) (k+1) v W W' h;replace kS:=Bx.mk kS;replace kT:=Bx.mk kT;replace kO:=Bx.mk kO;obtain ⟨x0,hx0⟩ : ∃ x,x=X k:=⟨_,rfl⟩;rw [←hx0] at hcx hC;obtain ⟨x1,hx1⟩ : ∃ x,x=X (k+1):=⟨_,rfl⟩;rw [←hx1] at hC;have hcat:Bx ((List.range (k+1)).map X++[x1]=(List.range (k+2)).map X):=⟨by rw [hx1,List.range_succ (n:=k+1),List.map_append];rfl⟩
    obtain ⟨dd,hdd⟩ : ∃ d:Int,d=(N:Int)+2 - (k:Int):=⟨_,rfl⟩;rw [←hdd] at t0 hC ⊢;obtain ⟨d1,hd1⟩ : ∃ d:Int,d=(N:Int)+2 - ((k+1:Nat):Int):=⟨_,rfl⟩;have hs3:Bx (IntKind.i64.wrap (dd - 1)=d1):=⟨by rw [hd1,hdd];exact hs2.out⟩
    have Hd1:=Bx.mk hd1;have Hdd:=Bx.mk hdd;have Hlt:=Bx.mk hlt;clear hs2 hlt hdd hd1 hx0 hx1 hown hsl hI kD hxl hBl hgB hne HJ HJl HC HA;go_upto_region 4 with fail
    refine zAN 10 1 (fun ii v w'=>match ii with
     | 0=>v = .pointer (some ⟨sb,0,none⟩)
     | 1=>v = .slice ta nl tc
     | 2=>OfV wr.heap.size sb ta nl tc v w'
     | 3=>v = .slice (some ⟨g,0,none⟩) ((k+1:Nat)) cap
     | 4=>v = .slice (some ⟨g,0,none⟩) ((k+1:Nat)) cap
     | 5=>v = .int .i64 ((k:Int)+1)
     | 6=>v = .int .i64 (k:Int)
     | 7=>v = .pointer (some ⟨g,k,none⟩)
     | 8=>v = .int .i64 x0
     | _=>v = .int .i64 dd) (by kernel_rfl) (by kernel_rfl) 34 (by kernel_rfl) (by rfl) ?_ ?_ ?_
    · intro ii hi v u1 u2 hb h
      match ii,hi with
      | 0,_=>exact h
      | 1,_=>exact h
      | 2,_=>exact h.later hb
      | 3,_=>exact h
      | 4,_=>exact h
      | 5,_=>exact h
      | 6,_=>exact h
      | 7,_=>exact h
      | 8,_=>exact h
      | 9,_=>exact h
    · intro ii o hi ho ρ w1 hb hc1 hc2 hc3 hk
      match ii,hi with
      | 0, _ =>
        obtain rfl:=Option.some.inj ho;have g0:ρ (.tmp 1) = .pointer (some ⟨pS,0,none⟩):=hk 1 (by simp [Op.operands,Call.operands])
        have k1:=kS.out.later hb;have z0:=k1.cell 0 rfl;clear hk hb hC hA hJ2 hJl;go_simp;exact Below.refl _ _
      | 1, _ =>
        obtain rfl:=Option.some.inj ho;have g0:ρ (.tmp 2) = .pointer (some ⟨pT,0,none⟩):=hk 2 (by simp [Op.operands,Call.operands])
        have k1:=kT.out.later hb;have z0:=k1.cell 0 rfl;clear hk hb hC hA hJ2 hJl;go_simp;exact Below.refl _ _
      | 2, _ =>
        obtain rfl:=Option.some.inj ho;have g0:ρ (.tmp 14) = .pointer (some ⟨sb,0,none⟩):=hk 14 (by simp [Op.operands,Call.operands])
        have g1:ρ (.tmp 15) = .slice ta nl tc:=hk 15 (by simp [Op.operands,Call.operands])
        have h4:=(lv_of sb ta nl tc w1).mono fun e w2 h=>(⟨_,zG7 hb.size h⟩ : ∃ v,e = .returned v∧Below w1.heap.size w1 w2∧OfV wr.heap.size sb ta nl tc v w2);have H4:=Bx.mk h4;clear h4;clear hk hb hC hA hJ2 hJl;go_simp
        all_goals exact H4.out
      | 3, _ =>
        obtain rfl:=Option.some.inj ho;have g0:ρ (.tmp 3) = .pointer (some ⟨pO,0,none⟩):=hk 3 (by simp [Op.operands,Call.operands])
        have k1:=kO.out.later hb;have z0:=k1.cell 0 rfl;clear hk hb hC hA hJ2 hJl;go_simp;exact Below.refl _ _
      | 4, _ =>
        obtain rfl:=Option.some.inj ho;have g0:ρ (.tmp 3) = .pointer (some ⟨pO,0,none⟩):=hk 3 (by simp [Op.operands,Call.operands])
        have k1:=kO.out.later hb;have z0:=k1.cell 0 rfl;clear hk hb hC hA hJ2 hJl;go_simp;exact Below.refl _ _
      | 5, _ =>
        obtain rfl:=Option.some.inj ho;have g0:ρ (.tmp 18) = .slice (some ⟨g,0,none⟩) ((k+1:Nat)) cap:=hk 18 (by simp [Op.operands,Call.operands])
        clear hk hb hC hA hJ2 hJl;go_simp;exact Below.refl _ _
      | 6, _ =>
        obtain rfl:=Option.some.inj ho;have g0:ρ (.tmp 19) = .int .i64 ((k:Int)+1):=hk 19 (by simp [Op.operands,Call.operands])
        have hw:=hs1.out;have hw2:=hs1b.out;clear hk hb hC hA hJ2 hJl;go_simp;exact Below.refl _ _
      | 7, _ =>
        obtain rfl:=Option.some.inj ho;have g0:ρ (.tmp 17) = .slice (some ⟨g,0,none⟩) ((k+1:Nat)) cap:=hk 17 (by simp [Op.operands,Call.operands])
        have g1:ρ (.tmp 20) = .int .i64 (k:Int):=hk 20 (by simp [Op.operands,Call.operands])
        have b1:=hk1.out;clear hk hb hC hA hJ2 hJl;go_simp;exact Below.refl _ _
      | 8, _ =>
        obtain rfl:=Option.some.inj ho;have g0:ρ (.tmp 21) = .pointer (some ⟨g,k,none⟩):=hk 21 (by simp [Op.operands,Call.operands])
        have z0:=cell_later hb hcx.out;clear hk hb hC hA hJ2 hJl;go_simp;exact Below.refl _ _
      | 9, _ =>
        obtain rfl:=Option.some.inj ho;have g0:ρ (.tmp 5) = .int .i64 dd:=hk 5 (by simp [Op.operands,Call.operands])
        clear hk hb hC hA hJ2 hJl;go_simp;exact Below.refl _ _
    · intro vs W1 hlen hb hR
      match vs,hlen with
      | [v0,v1,v2,v3,v4,v5,v6,v7,v8,v9],_ =>
      have r0:v0 = .pointer (some ⟨sb,0,none⟩):=hR 0 v0 rfl;have r1:v1 = .slice ta nl tc:=hR 1 v1 rfl;have r3:v3 = .slice (some ⟨g,0,none⟩) ((k+1:Nat)) cap:=hR 3 v3 rfl;have r4:v4 = .slice (some ⟨g,0,none⟩) ((k+1:Nat)) cap:=hR 4 v4 rfl;have r5:v5 = .int .i64 ((k:Int)+1):=hR 5 v5 rfl;have r6:v6 = .int .i64 (k:Int):=hR 6 v6 rfl;have r7:v7 = .pointer (some ⟨g,k,none⟩):=hR 7 v7 rfl;have r8:v8 = .int .i64 x0:=hR 8 v8 rfl;have r9:v9 = .int .i64 dd:=hR 9 v9 rfl;have r2x:=hR 2 v2 rfl;clear hR;subst r0 r1 r3 r4 r5 r6 r7 r8 r9;obtain ⟨mb,rfl,hm1,hm2,hm3⟩:=r2x;have hc:=Bx.mk (hC.out W1 mb hb hm1 hm2 hm3);clear hC hb hm1 hm2 hm3 kS kT kO hcx hs1 hs1b hk1;simp only [zKA,List.take_succ_cons,List.take_zero,List.drop_succ_cons,List.drop_zero,List.map_cons,List.map_nil,List.zip_cons_cons,List.zip_nil_right,List.foldl_cons,List.foldl_nil];simp only [Act.put,List.setIfInBounds_toArray,List.set_cons_succ,List.set_cons_zero];go_wp2_with fail;refine hc.out.mono ?_;rintro e w2 (⟨rfl,hJ⟩ | ⟨rfl,hQ⟩)
      · obtain ⟨hBl,hne,-,-,-,kO,hown⟩:=hJ2.out _ w2 hJ;have c0:w2.cell? ⟨pO,0,none⟩=some (.slice (some ⟨g,0,none⟩) ((k+1:Nat)) cap):=kO.cell 0 rfl;have HJ2:=Bx.mk hJ;have Hown:=Bx.mk hown;have KO:=Bx.mk kO;have Hne:=Bx.mk (hne g rfl);have hln:((List.range (k+1)).map X).length≤1000000000:=by have:=Hlt.out;simp;omega
        have hw3:=hs3.out;clear hJ hown hc kO hJ2 hne
        go_wp2_with (first
         | (at_builtin
            refine zAF rfl _ _ 26 rfl 3 .i64 (.int .i64 0) 8 (by omega) Tryz.underlying26 (by kernel_rfl) rfl B _ ((List.range (k+1)).map X) rfl (Hown.out.alloc _) x1 ⟨w2.heap.size,0,none⟩ 1 rfl (zH _ _ _) hln (Nat.le_trans hBl (by simp)) ?_
            intro v1 w1 hown1 hg1 hwh;rw [hcat.out] at hown1;obtain ⟨a1,cap1,hv1,-⟩:=hown1.form;rw [show ((List.range (k+2)).map X).length=k+2 by simp] at hv1
            subst hv1;have kO1:=(KO.out.alloc (.cells #[x1] 3)).grownO hg1 (fun e=>Hne.out (Option.some.inj e));have c1:=kO1.cell 0 rfl;have f1:=kO1.frozen 0;have HA2:=Bx.mk (hA.out _ _ _ w1 (hJl.out _ _ _ HJ2.out ((Below.refl _ _).alloc (Nat.le_refl _) _)) hown1 hg1 hwh);clear hown1 hg1 hwh kO1))
        have hlt:=Hlt.out;have e1:=Hd1.out;have e2:=Hdd.out
        go_roundw
        case rel=>exact ⟨k+1,by omega,by rw [Hd1.out],_,HA2⟩
        case measure=>simp only [intOf];omega
      · have HQ:=Bx.mk hQ;clear hQ hc;go_wp2_with fail;go_ret;exact .inr ⟨rfl,HQ.out⟩
  · obtain rfl:k=N:=by omega
    have t0:decide ((k:Int)+2 - (k:Int) > 2)=false:=by simp;omega
    clear hlt HC HA HJ HJl;go_wp2_with fail;go_ret;exact .inl ⟨rfl,v,hI.out⟩
end
section
open Go.RowKit Go.Sort Go.Maps
open Oct
theorem zGh (sb:Nat) (ta:Option Addr) (nl tc len N:Nat) (hN:N≤12) (X:Nat→Int) (w:World) (J:Nat→Nat→Value→World→Prop) (Q Q2:World→Prop)
 (HLen:Bx (∀ W,Below w.heap.size w W→Calls Tryz.prog 32 #[.pointer (some ⟨sb,0,none⟩)] W fun e w'=>e = .returned (.int .i64 (len:Int))∧W=w'))
 (H0:Bx (∀ W,Below w.heap.size w W→W.heap.size=w.heap.size+5→Bk W w.heap.size #[.pointer (some ⟨sb,0,none⟩)] 31→Bk W (w.heap.size+1) #[.slice ta nl tc] 29→Bk W (w.heap.size+2) #[.int .i64 ((N:Int)+2)] 3→Own W w.heap.size 3 .i64 (.slice (some ⟨w.heap.size+3,0,none⟩) 1 1) [X 0]→Bk W (w.heap.size+4) #[.slice (some ⟨w.heap.size+3,0,none⟩) 1 1] 26→J 0 1 (.slice (some ⟨w.heap.size+3,0,none⟩) 1 1) W))
 (HJ:Bx (∀ k m v W,J k m v W→w.heap.size≤W.heap.size∧(∀ g,v.ownBlock=some g→g ≠ w.heap.size+4)∧Bk W (w.heap.size+2) #[.int .i64 ((N:Int)+2)] 3∧Bk W w.heap.size #[.pointer (some ⟨sb,0,none⟩)] 31∧Bk W (w.heap.size+1) #[.slice ta nl tc] 29∧Bk W (w.heap.size+4) #[v] 26∧Own W w.heap.size 3 .i64 v ((List.range m).map X)))
 (HJl:Bx (∀ k m v W W',J k m v W→Below W.heap.size W W'→J k m v W'))
 (HC:Bx (∀ k v W W1 mb,k<N→J k (k+1) v W→Below W.heap.size W W1→W.heap.size≤mb→Bk W1 (mb+1) #[.pointer (some ⟨sb,0,none⟩),.slice ta nl tc,.map (some mb)] 138→MapV 140 W1 mb 0 (fun _=>none) →
  Calls Tryz.prog 46 #[.pointer (some ⟨mb+1,0,none⟩),.int .i64 (X k),.int .i64 ((N:Int)+2 - k)] W1 fun e w'=>(e=zLK (X (k+1)) 0∧J (k+1) (k+1) v w')∨(e=zLK 0 14∧Q w')))
 (HA:Bx (∀ k v v1 W w1,J (k+1) (k+1) v W→Own w1 w.heap.size 3 .i64 v1 ((List.range (k+2)).map X)→W.grownBy w1 v.ownBlock→(v1.ownBlock=v.ownBlock∨v1.ownBlock=some W.heap.size)→J (k+1) (k+2) v1 (w1.setCell ⟨w.heap.size+4,0,none⟩ v1)))
 (HT:Bx (∀ w',Q w'→Calls Tryz.prog 102 #[.pointer (some ⟨sb,0,none⟩),(len:Int)] w' fun e w2=>e = .returned (.tuple #[])∧Q2 w2)) :
 Calls Tryz.prog 12 #[.pointer (some ⟨sb,0,none⟩),.slice ta nl tc,.int .i64 (X 0),.int .i64 ((N:Int)+2)] w fun e w'=>(∃ v,e = .returned (.tuple #[v,(0:Int)])∧J N (N+1) v w')∨(e = .returned (.tuple #[.slice none 0 0,(14:Int)])∧Q2 w'):=by
 go_enter Tryz.func12,Tryz.ntmps12;go_upto_region 2 with fail;generalize hW:World.alloc (World.alloc (World.alloc (World.alloc (World.alloc w _) _) _) _) _=W;have hB:Below w.heap.size w W:=by rw [←hW];exact (((((Below.refl _ _).alloc (Nat.le_refl _) _).alloc (by simp) _).alloc (by simp;omega) _).alloc (by simp;omega) _).alloc (by simp;omega) _
 have hsz:W.heap.size=w.heap.size+5:=by rw [←hW];simp
 have ks:Bk W w.heap.size #[.pointer (some ⟨sb,0,none⟩)] 31:=by rw [←hW];exact zE (zE (zE (zE (zD _ _ _ (by simp)))))
 have kt:Bk W (w.heap.size+1) #[.slice ta nl tc] 29:=by rw [←hW];exact zE (zE (zE (zD _ _ _ (by simp))))
 have kd:Bk W (w.heap.size+2) #[.int .i64 ((N:Int)+2)] 3:=bk2 hW
 have kr:Own W w.heap.size 3 .i64 (.slice (some ⟨w.heap.size+3,0,none⟩) 1 1) [X 0]:=by
  rw [←hW];refine Own.alloc ?_ _;have h:=Own.lit (((w.alloc (.cells #[.pointer (some ⟨sb,0,none⟩)] 31)).alloc (.cells #[.slice ta nl tc] 29)).alloc (.cells #[.int .i64 ((N:Int)+2)] 3)) w.heap.size 3 .i64 #[.int .i64 (X 0)] [X 0] 1 (by simp;omega) (by decide) rfl rfl
  simpa using h
 have ko:Bk W (w.heap.size+4) #[.slice (some ⟨w.heap.size+3,0,none⟩) 1 1] 26:=bk0 hW;clear hW;have hj:=H0.out W hB hsz ks kt kd kr ko
 have hw:=Bx.mk (zHS sb len 44 #[.pointer (some ⟨w.heap.size+1+1,0,none⟩),.pointer (some ⟨w.heap.size,0,none⟩),.pointer (some ⟨w.heap.size+1,0,none⟩),.pointer (some ⟨w.heap.size+1+1+1+1,0,none⟩)] W
  (fun w' => ∃ v,J N (N+1) v w') Q Q2 ⟨HLen.out W hB⟩ ⟨enters_of Tryz.func44 rfl rfl⟩
  ⟨zG9 (w.heap.size+2) w.heap.size (w.heap.size+1) (w.heap.size+4) sb w.heap.size ta nl tc N hN X W J Q HJ HJl ⟨_,hj⟩ HC HA⟩ HT)
 have c0:=ks.cell 0 rfl;clear ks kt kd kr ko hB hsz hj HLen H0 HC HA HJl HT;go_wp2_with fail;refine hw.out.mono ?_;rintro _ w2 (⟨rfl,v,hJ⟩ | ⟨rfl,hQ⟩)
 · obtain ⟨-,-,-,-,-,ko,-⟩:=HJ.out _ _ _ _ hJ;have c1:w2.cell? ⟨w.heap.size+1+1+1+1,0,none⟩=some v:=ko.cell 0 rfl;have H:=Bx.mk hJ;clear hw hJ HJ ko;go_wp2_with fail
   go_ret2
   exact .inl ⟨v,rfl,H.out⟩
 · have HQ:=Bx.mk hQ;clear hw hQ HJ;go_wp2_with fail
   go_ret2
   exact .inr ⟨rfl,HQ.out⟩
end
end Go.Proofs.YtgnfgblkpnfcnaaGreatDoor
