/- Sm1, Sm2, Snp, Df3, Tpa, Sn1: joined by program, for one claim. -/
import Derived.Test.YtfcbajmjaifjlaaGreatDoorM23
set_option maxHeartbeats 1000000
set_option maxRecDepth 100000
set_option linter.unusedVariables false
set_option linter.unusedSimpArgs false
namespace Go.Proofs.YtfcbajmjaifjlaaGreatDoor
section
open Go.RowKit Go.Sort Go.Maps
open Oct
theorem zMP (x y z:Int) (w:World) :
 Calls Tryz.prog 23 #[x,y,z] w fun e w'=>e = .returned (.agg #[x,y,z])∧Below w.heap.size w w':=by
 go_enter Tryz.func23,Tryz.ntmps23;go_wp2;exact bodyPost_ret (v:=.agg #[x,y,z]) (by simp [results,Tryz.results23,go_sem]) rfl ⟨rfl,(Below.refl _ _).alloc (Nat.le_refl _) _⟩
theorem zLl (x y z x2 y2 z2:Int) (w:World) :
 Calls Tryz.prog 22 #[.agg #[x,y,z],.agg #[x2,y2,z2]] w fun e w'=>e = .returned (.agg #[x,y,z,x2,y2,z2])∧Below w.heap.size w w':=by
 go_enter Tryz.func22,Tryz.ntmps22;go_wp2_with fail;exact bodyPost_ret (v:=.agg #[x,y,z,x2,y2,z2]) (by simp [results,Tryz.results22,go_sem]) rfl ⟨rfl,(((Below.refl _ _).alloc (Nat.le_refl _) _).alloc (by simp) _).alloc (by simp;omega) _⟩
def SlK (w:World) (a:Option Addr) (L:List (Pt × Nat)):Prop := ∀ (i:Nat) (c:Pt × Nat),L[i]? = some c → ∃ b off,a=some ⟨b,off,none⟩∧w.cell? ⟨b,off+i * 4,none⟩=some (.int .i64 c.1.x)∧w.cell? ⟨b,off+i * 4+1,none⟩=some (.int .i64 c.1.y)∧w.cell? ⟨b,off+i * 4+2,none⟩=some (.int .i64 c.1.z)∧w.cell? ⟨b,off+i * 4+3,none⟩=some (.int .i64 ((c.2:Int)+2))
theorem SlK.below {w w':World} {a:Option Addr} {L:List (Pt × Nat)} (h:SlK w a L) (hb:Below w.heap.size w w'):SlK w' a L:=by
 intro i c hc;obtain ⟨b,off,rfl,c0,c1,c2,c3⟩:=h i c hc;have hh:=hb.block b (World.block_lt_of_cell? w _ c0);exact ⟨b,off,rfl,(World.cell?_of_block hh).trans c0,(World.cell?_of_block hh).trans c1,(World.cell?_of_block hh).trans c2,(World.cell?_of_block hh).trans c3⟩
theorem zEg {W:World} {B:Nat} {v:Value} {l:List (Pt × Nat)} (h:W.ownsRow B 52 4 v l.length (zAg l)) : ∃ hc cap,v = .slice hc l.length cap∧SlK W hc l:=by
 have hcell:=fun g (hg:v.ownBlock=some g)=>h.cells hg;rcases h.2 with ⟨rfl,hn⟩ | ⟨g,cap,cur,rfl,-,-,hc,-⟩
 · exact ⟨none,0,by rw [hn],fun i c hi=>by rw [List.length_eq_zero_iff.1 hn] at hi;simp at hi⟩
 · refine ⟨_,cap,rfl,fun i c hi=>⟨g,0,rfl,?_⟩⟩;have hcell:=hcell g rfl
   have key : ∀ (l:List (Pt × Nat)) (i:Nat) (c:Pt × Nat) (j:Nat),l[i]? = some c→j<4→(zAg l)[i * 4+j]? = (zC5 c)[j]? := by
    intro l
    induction l with
    | nil=>intro i c j hi;simp at hi
    | cons d r ih =>
      intro i c j hi hj
      show (zC5 d++zAg r)[i * 4+j]? = _
      cases i with
      | zero =>
        obtain rfl:=Option.some.inj hi;rw [Nat.zero_mul,Nat.zero_add,List.getElem?_append_left (by simpa [zC5] using hj)]
      | succ i =>
        rw [List.getElem?_append_right (by simp [zC5];omega)]
        have:=ih i c j hi hj;rw [show (i+1) * 4+j - (zC5 d).length=i * 4+j by simp [zC5];omega]
        exact this
   have get : ∀ j u,j<4→(zC5 c)[j]? = some u→W.cell? ⟨g,0+i * 4+j,none⟩=some u:=fun j u hj hu=>by
    have:=hcell (i * 4+j) u ((key l i c j hi hj).trans hu);rw [Nat.zero_add];by_cases h0:i * 4+j=0
    · rw [h0] at this ⊢; exact this
    · unfold Addr.add at this;rw [if_neg (by simpa using h0)] at this
      simpa using this
   exact ⟨by simpa using get 0 _ (by decide) rfl,by simpa using get 1 _ (by decide) rfl,by simpa using get 2 _ (by decide) rfl,by simpa using get 3 _ (by decide) rfl⟩
theorem zL9 (x y:Pt × Nat) (w:World):(binOp .neq 52 (.agg #[.int .i64 x.1.x,.int .i64 x.1.y,.int .i64 x.1.z,.int .i64 ((x.2:Int)+2)]) (.agg #[.int .i64 y.1.x,.int .i64 y.1.y,.int .i64 y.1.z,.int .i64 ((y.2:Int)+2)])).run Tryz.prog w = .ok (.bool (!decide (x=y))) w:=by
 have h:=zL3 x.1.x x.1.y x.1.z ((x.2:Int)+2) y.1.x y.1.y y.1.z ((y.2:Int)+2) w
 have e:decide (x.1.x=y.1.x∧x.1.y=y.1.y∧x.1.z=y.1.z∧(x.2:Int)+2=(y.2:Int)+2)=decide (x=y):=by
  apply decide_eq_decide.2;obtain ⟨⟨a,b,c⟩,d⟩:=x;obtain ⟨⟨a',b',c'⟩,d'⟩:=y;simp only [Prod.mk.injEq,Pt.mk.injEq];omega
 rw [e] at h;rw [run_eql_struct] at h;rw [run_neq_struct];generalize Sem.run Tryz.prog (Op.equalIn _ _ _ _) w=r at *;cases r with
 | ok b w' =>
   simp only [Result.andThen] at h ⊢;injection h with h1 h2;injection h1 with h1;rw [h1,h2]
 | halt x w'=>simp only [Result.andThen] at h;cases h
theorem zEE (L M:List (Pt × Nat)) (a a':Option Addr) (cap cap':Nat) (w:World) (hL:L.length≤1000000000000) (hM:M.length≤1000000000000) (hA:SlK w a L) (hB:SlK w a' M) :
 Calls Tryz.prog 26 #[.slice a L.length cap,.slice a' M.length cap'] w fun e w'=>e = .returned (.bool (decide (L=M)))∧Below w.heap.size w w':=by
 by_cases hlen:L.length=M.length
 rotate_left
 · have hne:decide (L=M)=false:=by simp;intro e;exact hlen (by rw [e])
   rw [hne];have t0:((L.length:Int) == (M.length:Int))=false:=by simp;omega
   generalize (L.length:Nat)=n at *;generalize (M.length:Nat)=n2 at *;clear hA hB;go_enter Tryz.func26,Tryz.ntmps26;go_wp2_with fail;go_ret;exact ⟨rfl,Below.refl _ _⟩
 rw [←hlen];generalize hn:L.length=n at *;have HN:=Bx.mk hn;have HM:=Bx.mk hlen;have HA:=Bx.mk hA;have HB:=Bx.mk hB;have t0:((n:Int) == (n:Int))=true:=by simp
 clear hA hB hlen hn;go_enter Tryz.func26,Tryz.ntmps26;go_wp2_with fail;clear t0
 go_loopw [5] (fun v5 wr => ∃ k:Nat,k≤n∧v5 = .int .i64 k∧Bx (Below w.heap.size w wr∧L.take k=M.take k)) (fun i _=>n - (intOf i).toNat)
 case atStart=>exact ⟨0,Nat.zero_le _,rfl,⟨Below.refl _ _,by simp⟩⟩
 case round =>
  obtain ⟨k,hk,rfl,HI⟩:=hrel;by_cases hlt:k<n
  · have t1:decide ((k:Int)<(n:Int))=true:=by simp;omega
    obtain ⟨x,hx⟩ : ∃ x,L[k]? = some x:=⟨_,List.getElem?_eq_getElem (by have:=HN.out;omega)⟩
    obtain ⟨y,hy⟩ : ∃ y,M[k]? = some y:=⟨_,List.getElem?_eq_getElem (by have:=HM.out;omega)⟩
    obtain ⟨bA,oA,rfl,x0,x1,x2,x3⟩:=(HA.out.below HI.out.1) k x hx;obtain ⟨bB,oB,rfl,y0,y1,y2,y3⟩:=(HB.out.below HI.out.1) k y hy;have b1:(0:Int)≤(k:Int):=by omega
    have b2:(k:Int)<(n:Int):=by omega
    have hq:=Bx.mk fun W=>zL9 x y W;have HX:Bx (∀ w1,Below wr.heap.size wr w1→w1.cell? ⟨bA,oA+k * 4,none⟩=some (.int .i64 x.1.x)∧w1.cell? ⟨bA,oA+k * 4+1,none⟩=some (.int .i64 x.1.y)∧w1.cell? ⟨bA,oA+k * 4+2,none⟩=some (.int .i64 x.1.z)∧w1.cell? ⟨bA,oA+k * 4+3,none⟩=some (.int .i64 ((x.2:Int)+2))):=⟨fun w1 hb=>⟨cell_later hb x0,cell_later hb x1,cell_later hb x2,cell_later hb x3⟩⟩;have HY:Bx (∀ w1,Below wr.heap.size wr w1→w1.cell? ⟨bB,oB+k * 4,none⟩=some (.int .i64 y.1.x)∧w1.cell? ⟨bB,oB+k * 4+1,none⟩=some (.int .i64 y.1.y)∧w1.cell? ⟨bB,oB+k * 4+2,none⟩=some (.int .i64 y.1.z)∧w1.cell? ⟨bB,oB+k * 4+3,none⟩=some (.int .i64 ((y.2:Int)+2))):=⟨fun w1 hb=>⟨cell_later hb y0,cell_later hb y1,cell_later hb y2,cell_later hb y3⟩⟩;have Hx:=Bx.mk hx;have Hy:=Bx.mk hy;clear x0 x1 x2 x3 y0 y1 y2 y3 hx hy;go_upto_region 6 with fail
    refine zw 8 (fun i v w'=>match i with
     | 0=>v = .slice (some ⟨bA,oA,none⟩) n cap
     | 1=>v = .int .i64 (k:Int)
     | 2=>v = .pointer (some ⟨bA,oA+k * 4,none⟩)
     | 3=>v = .agg #[.int .i64 x.1.x,.int .i64 x.1.y,.int .i64 x.1.z,.int .i64 ((x.2:Int)+2)]
     | 4=>v = .slice (some ⟨bB,oB,none⟩) n cap'
     | 5=>v = .int .i64 (k:Int)
     | 6=>v = .pointer (some ⟨bB,oB+k * 4,none⟩)
     | _=>v = .agg #[.int .i64 y.1.x,.int .i64 y.1.y,.int .i64 y.1.z,.int .i64 ((y.2:Int)+2)]) (by kernel_rfl) (by kernel_rfl) 26 (by kernel_rfl) (by rfl) ?_ ?_ ?_
    · intro i hi v u1 u2 hb h
      match i,hi with
      | 0,_=>exact h
      | 1,_=>exact h
      | 2,_=>exact h
      | 3,_=>exact h
      | 4,_=>exact h
      | 5,_=>exact h
      | 6,_=>exact h
      | 7,_=>exact h
    · intro i o hi ho ρ w1 hb hc1 hc2 hc3 hk
      match i,hi with
      | 0, _ =>
        obtain rfl:=Option.some.inj ho;have g0:ρ (.tmp 0) = .slice (some ⟨bA,oA,none⟩) n cap:=hk 0 (by simp [Op.operands,Call.operands])
        clear hk hb HX HY HI HA HB Hx Hy hq;go_simp;exact Below.refl _ _
      | 1, _ =>
        obtain rfl:=Option.some.inj ho;have g0:ρ (.tmp 5) = .int .i64 (k:Int):=hk 5 (by simp [Op.operands,Call.operands])
        clear hk hb HX HY HI HA HB Hx Hy hq;go_simp;exact Below.refl _ _
      | 2, _ =>
        obtain rfl:=Option.some.inj ho;have g0:ρ (.tmp 17) = .slice (some ⟨bA,oA,none⟩) n cap:=hk 17 (by simp [Op.operands,Call.operands])
        have g1:ρ (.tmp 18) = .int .i64 (k:Int):=hk 18 (by simp [Op.operands,Call.operands])
        clear hk hb HX HY HI HA HB Hx Hy hq;go_simp;exact Below.refl _ _
      | 3, _ =>
        obtain rfl:=Option.some.inj ho;have g0:ρ (.tmp 19) = .pointer (some ⟨bA,oA+k * 4,none⟩):=hk 19 (by simp [Op.operands,Call.operands])
        obtain ⟨z0,z1,z2,z3⟩:=(HX.out w1 hb);clear hk hb HX HY HI HA HB Hx Hy hq;go_simp;exact Below.refl _ _
      | 4, _ =>
        obtain rfl:=Option.some.inj ho;have g0:ρ (.tmp 1) = .slice (some ⟨bB,oB,none⟩) n cap':=hk 1 (by simp [Op.operands,Call.operands])
        clear hk hb HX HY HI HA HB Hx Hy hq;go_simp;exact Below.refl _ _
      | 5, _ =>
        obtain rfl:=Option.some.inj ho;have g0:ρ (.tmp 5) = .int .i64 (k:Int):=hk 5 (by simp [Op.operands,Call.operands])
        clear hk hb HX HY HI HA HB Hx Hy hq;go_simp;exact Below.refl _ _
      | 6, _ =>
        obtain rfl:=Option.some.inj ho;have g0:ρ (.tmp 21) = .slice (some ⟨bB,oB,none⟩) n cap':=hk 21 (by simp [Op.operands,Call.operands])
        have g1:ρ (.tmp 22) = .int .i64 (k:Int):=hk 22 (by simp [Op.operands,Call.operands])
        clear hk hb HX HY HI HA HB Hx Hy hq;go_simp;exact Below.refl _ _
      | 7, _ =>
        obtain rfl:=Option.some.inj ho;have g0:ρ (.tmp 23) = .pointer (some ⟨bB,oB+k * 4,none⟩):=hk 23 (by simp [Op.operands,Call.operands])
        obtain ⟨z0,z1,z2,z3⟩:=(HY.out w1 hb);clear hk hb HX HY HI HA HB Hx Hy hq;go_simp;exact Below.refl _ _
    · intro vs W1 hlen hb hR
      match vs,hlen with
      | [v0, v1, v2, v3, v4, v5, v6, v7], _ =>
        have r0:v0 = .slice (some ⟨bA,oA,none⟩) n cap:=hR 0 v0 rfl;have r1:v1 = .int .i64 (k:Int):=hR 1 v1 rfl;have r2:v2 = .pointer (some ⟨bA,oA+k * 4,none⟩):=hR 2 v2 rfl;have r3:v3 = .agg #[.int .i64 x.1.x,.int .i64 x.1.y,.int .i64 x.1.z,.int .i64 ((x.2:Int)+2)]:=hR 3 v3 rfl;have r4:v4 = .slice (some ⟨bB,oB,none⟩) n cap':=hR 4 v4 rfl;have r5:v5 = .int .i64 (k:Int):=hR 5 v5 rfl;have r6:v6 = .pointer (some ⟨bB,oB+k * 4,none⟩):=hR 6 v6 rfl;have r7:v7 = .agg #[.int .i64 y.1.x,.int .i64 y.1.y,.int .i64 y.1.z,.int .i64 ((y.2:Int)+2)]:=hR 7 v7 rfl;clear hR;have hq1:(binOp .neq 52 v3 v7).run Tryz.prog W1 = .ok (.bool (!decide (x=y))) W1:=by rw [r3,r7];exact hq.out W1
        have hg1:(eqGuard .neq 52 (.tmp 20) (.tmp 24) v3 v7).run Tryz.prog W1 = .ok () W1:=by rw [r3,r7];go_simp
        clear r3 r7;subst r0 r1 r2 r4 r5 r6;have HBW:=Bx.mk (HI.out.1.trans (hb.mono HI.out.1.size));simp only [zAk,List.take_succ_cons,List.take_zero,List.drop_succ_cons,List.drop_zero,List.map_cons,List.map_nil,List.zip_cons_cons,List.zip_nil_right,List.foldl_cons,List.foldl_nil];cases hxy:decide (x=y) with
        | true =>
          rw [hxy,Bool.not_true] at hq1;have hxe:x=y:=by simpa using hxy
          have HJ:Bx (Below w.heap.size w W1∧L.take (k+1)=M.take (k+1)):=⟨HBW.out,by
           have h1:=List.getElem?_eq_some_iff.1 Hx.out;have h2:=List.getElem?_eq_some_iff.1 Hy.out;rw [List.take_succ_eq_append_getElem h1.1,List.take_succ_eq_append_getElem h2.1,HI.out.2,h1.2,h2.2,hxe]⟩
          clear hxy hxe hb hq;go_wp2_with fail
          go_roundw
          case rel=>exact ⟨k+1,by omega,by go_num,HJ⟩
          case measure=>simp [intOf];omega
        | false =>
          rw [hxy,Bool.not_false] at hq1
          have hne:Bx (decide (L=M)=false):=⟨by
           simp only [decide_eq_false_iff_not] at hxy ⊢;intro e;rw [e] at Hx;exact hxy (Option.some.inj (Hx.out.symm.trans Hy.out))⟩
          clear hxy hb hq;go_wp2_with fail;go_ret;exact ⟨by rw [hne.out];rfl,HBW.out⟩
  · obtain rfl:k=n:=by omega
    have t1:decide ((k:Int)<(k:Int))=false:=by simp
    have he:Bx (decide (L=M)=true):=⟨by
     have h:=HI.out.2;rw [List.take_of_length_le (by have:=HN.out;omega),List.take_of_length_le (by have:=HM.out;omega)] at h
     simpa using h⟩
    go_wp2_with fail;go_ret;exact ⟨by rw [he.out];rfl,HI.out.1⟩
def SlP (w:World) (a:Option Addr) (L:List Pt):Prop := ∀ (i:Nat) (c:Pt),L[i]? = some c → ∃ b off,a=some ⟨b,off,none⟩∧w.cell? ⟨b,off+i * 3,none⟩=some (.int .i64 c.x)∧w.cell? ⟨b,off+i * 3+1,none⟩=some (.int .i64 c.y)∧w.cell? ⟨b,off+i * 3+2,none⟩=some (.int .i64 c.z)
theorem SlP.below {w w':World} {a:Option Addr} {L:List Pt} (h:SlP w a L) (hb:Below w.heap.size w w'):SlP w' a L:=by
 intro i c hc;obtain ⟨b,off,rfl,c0,c1,c2⟩:=h i c hc;have hh:=hb.block b (World.block_lt_of_cell? w _ c0);exact ⟨b,off,rfl,(World.cell?_of_block hh).trans c0,(World.cell?_of_block hh).trans c1,(World.cell?_of_block hh).trans c2⟩
structure CuI (w:World) (n:Nat) (L:List Pt) (k:Nat) (v:Value) (wr:World):Prop where
 bel:Below w.heap.size w wr
 own:wr.ownsRow w.heap.size 52 4 v k (zAg ((L.take k).map fun p=>(p,n)))
theorem zFu (n:Nat) (L:List Pt) (a:Option Addr) (cap:Nat) (w:World) (hL:L.length≤1000000) (hA:SlP w a L) :
 Calls Tryz.prog 28 #[.int .i64 ((n:Int)+2),.slice a L.length cap] w fun e w' => ∃ v,e = .returned v∧w'.ownsRow w.heap.size 52 4 v L.length (zAg (L.map fun p=>(p,n)))∧Below w.heap.size w w':=by
 obtain ⟨i0,hi0,hz0,hz1,hz2⟩:=info_parts (show (Tryz.prog.info? 52).map (fun i=>(i.zero,i.size,i.bytes))=some (some (.agg #[(0:Int),(0:Int),(0:Int),(0:Int)]),4,32) by kernel_rfl)
 have HI0:=Bx.mk hi0;have HZ0:=Bx.mk hz0;have HZ1:=Bx.mk hz1;have HZ2:=Bx.mk hz2;generalize hm:L.length=m at *;have HM:=Bx.mk hm;have HA:=Bx.mk hA;clear hi0 hz0 hz1 hz2 hm hA;go_enter Tryz.func28,Tryz.ntmps28;go_wp2_with fail;have HI:Bx (CuI w n L 0 (.slice none 0 0) w):=⟨⟨Below.refl _ _,World.ownsRow_nil _ _ _ _⟩⟩
 go_loopw [5,10] (fun v5 v10 wr => ∃ k:Nat,k≤m∧v10 = .int .i64 k∧Bx (CuI w n L k v5 wr)) (fun _ i _=>m - (intOf i).toNat)
 case atStart=>exact ⟨0,Nat.zero_le _,rfl,HI⟩
 case round =>
  clear HI;obtain ⟨k,hk,rfl,HI⟩:=hrel;obtain ⟨va,vc,rfl⟩:=zk HI.out.own;by_cases hlt:k<m
  · have t1:decide ((k:Int)<(m:Int))=true:=by simp;omega
    obtain ⟨x,hx⟩ : ∃ x,L[k]? = some x:=⟨_,List.getElem?_eq_getElem (by have:=HM.out;omega)⟩
    obtain ⟨bA,oA,rfl,x0,x1,x2⟩:=(HA.out.below HI.out.bel) k x hx;have b1:(0:Int)≤(k:Int):=by omega
    have b2:(k:Int)<(m:Int):=by omega
    have Hx:=Bx.mk hx;obtain ⟨px,py,pz⟩:=x;simp only [] at x0 x1 x2;clear hx;go_upto_region 5 with fail;generalize hW:World.alloc wr _=W;have hb:=bl1 hW;have kc:Bk W wr.heap.size #[px,py,pz] 23:=bk0 hW;clear hW x0 x1 x2;have HB:=Bx.mk (HI.out.bel.trans (hb.mono HI.out.bel.size));have HO:=Bx.mk (World.ownsRow.kept HI.out.own (zJ hb) (by cases (Value.slice va k vc).ownBlock <;> simp))
    have hown:=Bx.mk fun o=>World.ownsRow.alloc HO.out o;have hbase:=HB.out.size;obtain ⟨c0,c1,c2⟩:=kc.c3;clear kc hb;go_wp2_with (at_builtin;refine wpList_append_own_at _ rfl _ _ 67 rfl w.heap.size 52 i0 _ 4 32 Tryz.underlying67 HI0.out HZ0.out HZ1.out HZ2.out rfl (by omega) _ _ _ rfl (hown.out _) ⟨W.heap.size,0,none⟩ 1 1 [.int .i64 px,.int .i64 py,.int .i64 pz,.int .i64 ((n:Int)+2)] rfl rfl (World.news_of_block (cs:=#[px,py,pz,.int .i64 ((n:Int)+2)]) (t:=52) (fr:=(0,0)) (heap_alloc_new W _)) (by simp [Value.oneCell']) (by simp only [maxLen];omega) (by omega) (by simp;omega) ?_;intro v6 W6 hown6 hgr6 hnil6 hat6;have HO6:=Bx.mk hown6;have HG6:=Bx.mk ((World.grownBy_alloc W _ _).trans hgr6);clear hown6 hgr6 hnil6 hat6)
    have HJ:Bx (CuI w n L (k+1) v6 W6):=⟨⟨HB.out.trans ⟨HG6.out.os,HG6.out.tape,HG6.out.output,HG6.out.size,fun j hj=>HG6.out.block j (by omega) (fun e=>by have:=(World.ownsRow.lt HO.out j e.symm).1;omega)⟩,by
     have h:=List.getElem?_eq_some_iff.1 Hx.out;rw [List.take_succ_eq_append_getElem h.1,h.2,List.map_append,show zAg (((L.take k).map fun p=>(p,n))++[(⟨px,py,pz⟩:Pt)].map fun p=>(p,n))=zAg ((L.take k).map fun p=>(p,n))++[.int .i64 px,.int .i64 py,.int .i64 pz,.int .i64 ((n:Int)+2)] by unfold zAg;rw [List.flatMap_append];simp [zC5]]
     exact HO6.out⟩⟩
    clear HO6 HG6 HI c0 c1 c2
    go_roundw
    case rel=>exact ⟨k+1,by omega,by go_num,HJ⟩
    case measure=>simp [intOf];omega
  · obtain rfl:k=m:=by omega
    have t1:decide ((k:Int)<(k:Int))=false:=by simp
    go_wp2_with fail;go_ret;refine ⟨_,rfl,?_,HI.out.bel⟩;have h:=HI.out.own;rw [List.take_of_length_le (by have:=HM.out;omega)] at h
    exact h
end
section
open Go.RowKit
open Oct
def O3:Pt:=⟨0,0,0⟩
def gA:Pt→Int:=fun _=>0
def gB:Pt→Int:=zBA 1 ⟨⟨0,0,0⟩,⟨8,8,4⟩⟩ 5 gA
def gC:Pt→Int:=zBA 1 ⟨⟨-9,-9,-9⟩,⟨9,9,9⟩⟩ 5 gA
def gD:Pt→Int:=zAa (pts [⟨1,2,3,0,1⟩]) gA
def gP:Pt→Int:=zAd 1 ⟨⟨1,2,3⟩,⟨2,3,4⟩⟩ [1] gA
def brD:List Int:=(List.range 64).map fun k=>if k=57 then 1 else 0
def tB:Tr:=.node 3 fun i=>if i.val<4 then .uni 5 else .uni 0
def tD:Tr:=.node 3 fun i=>if i.val=0 then .brick brD else .uni 0
theorem kidA (i:Fin 8):Tr.can gA 0 (Tr.cor O3 0 i.val) = .uni 0:=by
 have h : ∀ i:Fin 8,(List.range 64).map (fun k=>gA (Tr.cellAt (Tr.cor O3 0 i.val) k))=List.replicate 64 0:=by decide +kernel
 unfold Tr.can;rw [h i];rfl
theorem kidC (i:Fin 8):Tr.can gC 0 (Tr.cor O3 0 i.val) = .uni 5:=by
 have h : ∀ i:Fin 8,(List.range 64).map (fun k=>gC (Tr.cellAt (Tr.cor O3 0 i.val) k))=List.replicate 64 5:=by decide +kernel
 unfold Tr.can;rw [h i];rfl
theorem kidB (i:Fin 8):Tr.can gB 0 (Tr.cor O3 0 i.val)=if i.val<4 then .uni 5 else .uni 0:=by
 have h : ∀ i:Fin 8,(List.range 64).map (fun k=>gB (Tr.cellAt (Tr.cor O3 0 i.val) k))=if i.val<4 then List.replicate 64 5 else List.replicate 64 0:=by decide +kernel
 unfold Tr.can;rw [h i];by_cases hi:i.val<4
 · rw [if_pos hi,if_pos hi];rfl
 · rw [if_neg hi,if_neg hi];rfl
theorem kidD (i:Fin 8):Tr.can gD 0 (Tr.cor O3 0 i.val)=if i.val=0 then .brick brD else .uni 0:=by
 have h : ∀ i:Fin 8,(List.range 64).map (fun k=>gD (Tr.cellAt (Tr.cor O3 0 i.val) k))=if i.val=0 then brD else List.replicate 64 0:=by decide +kernel
 unfold Tr.can;rw [h i];by_cases hi:i.val=0
 · rw [if_pos hi,if_pos hi];have : ¬ ∀ x∈brD,x=brD.headD 0:=by decide +kernel
   unfold Tr.mkBrick;rw [if_neg this]
 · rw [if_neg hi,if_neg hi];rfl
theorem zHN {f:Pt→Int} {c:Int} (h : ∀ i:Fin 8,Tr.can f 0 (Tr.cor O3 0 i.val) = .uni c):Tr.can f 1 O3 = .uni c:=by
 unfold Tr.can Tr.mkInner;rw [if_pos ⟨⟨c,h 0⟩,fun i=>(h i).trans (h 0).symm⟩];exact h 0
theorem zOM:Tr.can gA 1 O3 = .uni 0:=zHN kidA
theorem canC:Tr.can gC 1 O3 = .uni 5:=zHN kidC
theorem canB:Tr.can gB 1 O3=tB:=by
 unfold Tr.can Tr.mkInner
 rw [if_neg (fun ⟨_,h⟩=>by
  have h4:Tr.can gB 0 (Tr.cor O3 0 (4:Fin 8).val)=Tr.can gB 0 (Tr.cor O3 0 (0:Fin 8).val):=h 4;rw [kidB,kidB,if_neg (by decide),if_pos (by decide)] at h4
  injection h4 with h4;cases h4)]
 unfold tB
 congr 1
 funext i
 exact kidB i
theorem zOZ:Tr.can gD 1 O3=tD:=by
 unfold Tr.can Tr.mkInner;rw [if_neg (fun ⟨⟨c,h⟩,_⟩=>by simp only [kidD] at h;simp at h)]
 unfold tD
 congr 1
 funext i
 exact kidD i
theorem canP:Tr.can gP 1 O3=Tr.can gD 1 O3:=by
 refine Tr.can_congr 1 O3 (zB5 1) fun p _=>?_;unfold gP gD zAd zAa pts;simp only [List.map_cons,List.map_nil,List.foldl_cons,List.foldl_nil,Tr.upd,Chg.at];by_cases hp:p=⟨1,2,3⟩
 · subst hp;decide
 · rw [if_neg hp,if_neg];intro h;rw [Bool.and_eq_true] at h;have:=zX.1 h.1;apply hp;cases p;simp only [Pt.mk.injEq];simp only [] at this;omega
theorem zE2 (p:Pt):0≤gA p∧gA p≤255:=by unfold gA;decide
theorem cellB (p:Pt):0≤gB p∧gB p≤255:=by unfold gB zBA;split;decide;exact zE2 p
theorem cellC (p:Pt):0≤gC p∧gC p≤255:=by unfold gC zBA;split;decide;exact zE2 p
theorem cellD (p:Pt):0≤gD p∧gD p≤255:=by
 unfold gD zAa pts;simp only [List.map_cons,List.map_nil,List.foldl_cons,List.foldl_nil,Tr.upd];split
 · decide
 · exact zE2 p
theorem cellG1 (p:Pt):0≤zF ⟨⟨1,2,3⟩,⟨2,3,4⟩⟩ [1] p∧zF ⟨⟨1,2,3⟩,⟨2,3,4⟩⟩ [1] p≤255:=by
 unfold zF;split
 · generalize (zT ⟨⟨1,2,3⟩,⟨2,3,4⟩⟩ p).toNat=i;cases i with
   | zero=>decide
   | succ i=>simp
 · decide
theorem cellP (p:Pt):0≤gP p∧gP p≤255:=by unfold gP zAd;split;exact cellG1 p;exact zE2 p
theorem diffAB:zAi 1 O3 (.uni 0) tB=[(⟨0,0,0⟩,0),(⟨4,0,0⟩,0),(⟨0,4,0⟩,0),(⟨4,4,0⟩,0)]:=by
 unfold zAi;rw [if_neg (by unfold tB;intro h;cases h),if_neg (by decide)]
 have h : ∀ i:Fin 8,zAi 0 (Tr.cor O3 0 i.val) (Tr.kid (.uni 0) i) (Tr.kid tB i)=if i.val<4 then [(Tr.cor O3 0 i.val,0)] else []:=by
  intro i
  show zAi 0 _ (.uni 0) (if i.val<4 then .uni 5 else .uni 0)=_
  by_cases hi:i.val<4
  · rw [if_pos hi,if_pos hi];exact zER (by intro h;injection h with h;cases h)
  · rw [if_neg hi,if_neg hi];exact zCm _ _ _
 simp only [h];decide +kernel
theorem diffAC:zAi 1 O3 (.uni 0) (.uni 5)=[(⟨0,0,0⟩,1)]:=zFs (by intro h;injection h with h;cases h) rfl rfl
theorem cntB:zHQ 5 (zL 1 O3 tB)=256:=by decide +kernel
theorem hasD:(zL 1 O3 tD).any (zGe ⟨⟨1,2,3⟩,⟨2,3,4⟩⟩ [1])=true:=by decide +kernel
theorem hasD2:(zL 1 O3 tD).any (zGe ⟨⟨2,2,3⟩,⟨9,9,9⟩⟩ [1,2])=false:=by decide +kernel
theorem addD:Tr.add tD []=[.brick brD,.uni 0,tD]:=by
 have h0:Tr.addK (fun i:Fin 8=>if i.val=0 then Tr.brick brD else .uni 0) 1 []=[.brick brD]:=by
  rw [Tr.addK_succ _ (by decide),Tr.addK_zero]
  show Tr.add (.brick brD) []=_
  rw [Tr.add_brick,Tr.ins_of_not (by simp)];rfl
 have h1:Tr.addK (fun i:Fin 8=>if i.val=0 then Tr.brick brD else .uni 0) 2 []=[.brick brD,.uni 0]:=by
  rw [Tr.addK_succ _ (by decide),h0]
  show Tr.add (.uni 0) [.brick brD]=_
  rw [Tr.add_uni,Tr.ins_of_not (by simp)];rfl
 have hs : ∀ k (hk:k<8),2≤k→Tr.addK (fun i:Fin 8=>if i.val=0 then Tr.brick brD else .uni 0) k []=[.brick brD,.uni 0]→Tr.addK (fun i:Fin 8=>if i.val=0 then Tr.brick brD else .uni 0) (k+1) []=[.brick brD,.uni 0]:=by
  intro k hk h2 h;rw [Tr.addK_succ _ hk,h]
  show Tr.add (if k=0 then Tr.brick brD else .uni 0) _=_
  rw [if_neg (by omega),Tr.add_same _ _ (by simp)]
 unfold tD;rw [Tr.add_node,if_neg (by simp)]
 rw [hs 7 (by decide) (by decide) (hs 6 (by decide) (by decide) (hs 5 (by decide) (by decide) (hs 4 (by decide) (by decide) (hs 3 (by decide) (by decide) (hs 2 (by decide) (by decide) h1)))))]
 rfl
theorem zE8 (f:Pt→Int) (ts:List Tr):(Tr.add (Tr.can f 1 O3) ts).length≤ts.length+9 :=
 Nat.le_trans (zGu _ _) (Nat.add_le_add_left (Nat.le_trans (zI6 f 1 O3) (by decide)) _)
end
section
open Go.RowKit Go.Sort Go.Maps
open Oct
theorem zFt : ∀ (n:Nat) (a:Pt) (t u:Tr),(zAi n a t u).length≤8 ^ n
 | 0,a,t,u=>by unfold zAi;split <;> simp
 | n + 1, a, t, u => by
   unfold zAi;split
   · simp
   · split
     · simp;exact Nat.one_le_pow _ _ (by decide)
     · have key : ∀ l:List (Fin 8),(l.flatMap fun i=>zAi n (Tr.cor a n i.val) (t.kid i) (u.kid i)).length≤l.length * 8 ^ n:=by
        intro l
        induction l with
        | nil=>simp
        | cons i r ih =>
          rw [List.flatMap_cons,List.length_append,List.length_cons,Nat.add_mul,Nat.one_mul];have:=zFt n (Tr.cor a n i.val) (t.kid i) (u.kid i);omega
       have:=key (List.finRange 8);rw [List.length_finRange] at this;rw [Nat.pow_succ,Nat.mul_comm (8 ^ n) 8];exact this
theorem zKG (n:Nat) (a:Pt) (t u:Tr) (k:Nat):(zD2 n a t u k).length≤k * 8 ^ n:=by
 unfold zD2
 have key : ∀ l:List (Fin 8),(l.flatMap fun i=>zAi n (Tr.cor a n i.val) (t.kid i) (u.kid i)).length≤l.length * 8 ^ n:=by
  intro l
  induction l with
  | nil=>simp
  | cons i r ih =>
    rw [List.flatMap_cons,List.length_append,List.length_cons,Nat.add_mul,Nat.one_mul];have:=zFt n (Tr.cor a n i.val) (t.kid i) (u.kid i);omega
 exact Nat.le_trans (key _) (Nat.mul_le_mul_right _ (List.length_take_le _ _))
theorem zIT (most:Int) (ts:List Tr) (hG:Good ts) (hlen:ts.length≤4194304) (ps po pv sb N:Nat) (hN:N≤12) (w0:World) (hS:StoreIs w0 (fun k=>w0.heap.size≤k) sb most ts) :
 ∀ (n : Nat) (a : Pt) (_hin : InT N n a) (T U : Tr) (_hT : T ∈ ts) (_hU : U ∈ ts) (Av : Nat → Prop) (W : World) (L : List (Pt × Nat)), L.length + 8 ^ n ≤ 1000000000000 → DSt w0 Av ps po pv sb L W →
   Calls Tryz.prog 72 #[zH a.x a.y a.z ((n:Int)+2),(idT ts T:Int),(idT ts U:Int),.pointer (some ⟨ps,0,none⟩),.pointer (some ⟨po,0,none⟩),.pointer (some ⟨pv,0,none⟩)] W (DPost w0 Av ps po pv sb (L++zAi n a T U) W):=by
 intro n
 induction n with
 | zero =>
   intro a hin T U hT hU Av W L hL H;by_cases e:T=U
   · subst e;rw [zCm,List.append_nil];exact zKC _ _ _ _ _ ps po pv sb w0 W Av L H
   · rw [zER e];exact zKD 0 (by omega) a most ts hlen T U hT hU e (.inl rfl) ps po pv sb w0 W Av L (by omega) H ((hS.less (fun k h=>h.elim)).later H.bel)
 | succ n ih =>
   intro a hin T U hT hU Av W L hL H;have hp:0<8 ^ n:=Nat.pow_pos (by decide)
   have hle:=hin.le;rw [Nat.pow_succ] at hL;by_cases e:T=U
   · subst e;rw [zCm,List.append_nil];exact zKC _ _ _ _ _ ps po pv sb w0 W Av L H
   · cases hu:(isU T && isU U) with
     | true =>
       rw [Bool.and_eq_true] at hu;rw [zFs e hu.1 hu.2];exact zKD (n+1) (by omega) a most ts hlen T U hT hU e (.inr (by rw [hu.1,hu.2];rfl)) ps po pv sb w0 W Av L (by omega) H ((hS.less (fun k h=>h.elim)).later H.bel)
     | false =>
       obtain ⟨b1,b2,b3⟩:=hin.bd hN;rw [←zKH n a T U e hu,show (((n+1:Nat):Int)+2)=(n:Int)+3 by omega]
       refine zN7 n (by omega) a b1 b2 b3 most ts hlen T U hT hU e hu ps po pv sb w0 W Av L (zD2 n a T U) H (hS.later H.bel) (zIX _ _ _ _) ⟨fun k hk Av' W' hav hb hst=>?_⟩
       have h1:=zKG n a T U k;have h3:k * 8 ^ n≤7 * 8 ^ n:=Nat.mul_le_mul_right _ (by omega)
       have h:=ih (Tr.cor a n k) (hin.kid hk) (T.kid ⟨k,hk⟩) (U.kid ⟨k,hk⟩) (zHB hG hT _) (zHB hG hU _) Av' W' (L++zD2 n a T U k) (by rw [List.length_append];omega) hst
       rw [List.append_assoc,←zIY n a T U hk] at h;rw [zBI T hk,zBI U hk];exact h
theorem zFE (most:Int) (ts:List Tr) (hG:Good ts) (hlen:ts.length≤4194304) (sb n:Nat) (hn:n≤12) (T U:Tr) (hT:T∈ts) (hU:U∈ts) (w:World) (Far:Nat→Prop) (hS:StoreIs w Far sb most ts) :
 Calls Tryz.prog 27 #[.pointer (some ⟨sb,0,none⟩),(idT ts T:Int),(idT ts U:Int),.int .i64 ((n:Int)+2)] w fun e w' => ∃ v,e = .returned v∧w'.ownsRow w.heap.size 52 4 v (zAi n ⟨0,0,0⟩ T U).length (zAg (zAi n ⟨0,0,0⟩ T U))∧Below w.heap.size w w':=by
 have hwh:=Bx.mk fun W=>zAY ((n:Int)+2) W;have h8:8 ^ n≤1000000000000:=Nat.le_trans (Nat.pow_le_pow_right (by decide) hn) (by decide)
 have hvis:=Bx.mk fun Av W H=>zIT most ts hG hlen w.heap.size (w.heap.size+1) (w.heap.size+1+1) sb n hn w ((hS.less (Far:=fun _=>False) (fun k h=>h.elim)).widen (fun k hk=>.inr hk)) n ⟨0,0,0⟩ (InT.top n) T U hT hU Av W [] (by simpa using h8) H
 simp only [List.nil_append] at hvis;clear hG hlen hn hT hU hS h8;go_enter Tryz.func27,Tryz.ntmps27;go_upto_region 4 with fail;generalize hW:World.alloc (World.alloc (World.alloc w _) _) _=W;have hB:=bl3 hW;have ks:Bk W (w.heap.size) #[.pointer (some ⟨sb,0,none⟩)] 33:=bk2 hW;have ko:Bk W (w.heap.size+1) #[.slice none 0 0] 67:=bk1 hW;have kv:Bk W (w.heap.size+1+1) #[zIW w.heap.size (w.heap.size+1) (w.heap.size+1+1)] 119:=bk0 hW;clear hW
 have HD:=Bx.mk (show DSt w (fun k=>k=w.heap.size∨k=w.heap.size+1∨k=w.heap.size+1+1) w.heap.size (w.heap.size+1) (w.heap.size+1+1) sb [] W from
  ⟨hB,ks,kv,⟨_,ko,World.ownsRow_nil _ _ _ _,fun g hg=>by cases hg⟩,⟨by omega,by omega,by omega⟩,⟨.inl rfl,.inr (.inl rfl),.inr (.inr rfl)⟩,⟨by omega,by omega⟩,fun k hk=>by
   rcases hk with rfl | rfl | rfl
   · exact ks.lt
   · exact ko.lt
   · exact kv.lt⟩)
 have KV:=Bx.mk kv;clear ks ko kv hB
 refine zw 5 (fun i v w'=>match i with
  | 0=>v=zIW w.heap.size (w.heap.size+1) (w.heap.size+1+1)
  | 1=>v = .int .i64 ((n:Int)+2)
  | 2=>v=zH 0 0 0 ((n:Int)+2)
  | 3=>v = .int .i64 (idT ts T:Int)
  | _=>v = .int .i64 (idT ts U:Int)) (by kernel_rfl) (by kernel_rfl) 19 (by kernel_rfl) (by rfl) ?_ ?_ ?_
 · intro i hi v u1 u2 hb h
   match i,hi with
   | 0,_=>exact h
   | 1,_=>exact h
   | 2,_=>exact h
   | 3,_=>exact h
   | 4,_=>exact h
 · intro i o hi ho ρ w1 hb hc1 hc2 hc3 hk
   match i,hi with
   | 0, _ =>
     obtain rfl:=Option.some.inj ho;have g0:ρ (.tmp 10) = .pointer (some ⟨w.heap.size+1+1,0,none⟩):=hk 10 (by simp [Op.operands,Call.operands])
     have k1:=KV.out.later hb;have z0:=k1.cell 0 rfl;clear hk hb hvis hwh HD;go_simp;exact Below.refl _ _
   | 1, _ =>
     obtain rfl:=Option.some.inj ho;have g0:ρ (.tmp 3) = .int .i64 ((n:Int)+2):=hk 3 (by simp [Op.operands,Call.operands])
     clear hk hb hvis hwh HD;go_simp;exact Below.refl _ _
   | 2, _ =>
     obtain rfl:=Option.some.inj ho;have g0:ρ (.tmp 13) = .int .i64 ((n:Int)+2):=hk 13 (by simp [Op.operands,Call.operands])
     have h4:=hwh.out w1;have H4:=Bx.mk h4;clear h4;clear hk hb hvis hwh HD;go_simp
     all_goals exact H4.out
   | 3, _ =>
     obtain rfl:=Option.some.inj ho;have g0:ρ (.tmp 1) = .int .i64 (idT ts T:Int):=hk 1 (by simp [Op.operands,Call.operands])
     clear hk hb hvis hwh HD;go_simp;exact Below.refl _ _
   | 4, _ =>
     obtain rfl:=Option.some.inj ho;have g0:ρ (.tmp 2) = .int .i64 (idT ts U:Int):=hk 2 (by simp [Op.operands,Call.operands])
     clear hk hb hvis hwh HD;go_simp;exact Below.refl _ _
 · intro vs W1 hlen hb hR
   match vs,hlen with
   | [v0, v1, v2, v3, v4], _ =>
     have r0:v0=zIW w.heap.size (w.heap.size+1) (w.heap.size+1+1):=hR 0 v0 rfl;have r1:v1 = .int .i64 ((n:Int)+2):=hR 1 v1 rfl;have r2:v2=zH 0 0 0 ((n:Int)+2):=hR 2 v2 rfl;have r3:v3 = .int .i64 (idT ts T:Int):=hR 3 v3 rfl;have r4:v4 = .int .i64 (idT ts U:Int):=hR 4 v4 rfl;clear hR;subst r0 r1 r2 r3 r4;have hq:=Bx.mk (hvis.out _ W1 (HD.out.later hb));clear hb hvis HD KV hwh;simp only [zAk,List.take_succ_cons,List.take_zero,List.drop_succ_cons,List.drop_zero,List.map_cons,List.map_nil,List.zip_cons_cons,List.zip_nil_right,List.foldl_cons,List.foldl_nil];go_wp2_with fail;refine hq.out.mono ?_;rintro _ w5 ⟨rfl,hst,-⟩;obtain ⟨v,k1,k2,k3⟩:=hst.ko;have HB5:=Bx.mk hst.bel;have HR:=Bx.mk k2;have o0:=k1.cell 0 rfl;clear hst k1 k2 k3 hq;go_wp2_with fail;go_ret;exact ⟨v,rfl,HR.out,HB5.out⟩
theorem zHe {N:Nat} (hN:N≤12) (sb:Nat) (a b c d e f:Int) (ha:Option Addr) (hcp:Nat) (ys:List Int) (hSB:Small ⟨⟨a,b,c⟩,⟨d,e,f⟩⟩ 1048575) (hyl:ys.length=(zU ⟨⟨a,b,c⟩,⟨d,e,f⟩⟩).toNat) (hY:ys.length≤4194304) (hcap:ys.length≤hcp) (most:Int) (g:Pt→Int) (hg : ∀ p,0≤g p∧g p≤255) (hg' : ∀ p,0≤zAd N ⟨⟨a,b,c⟩,⟨d,e,f⟩⟩ ys g p∧zAd N ⟨⟨a,b,c⟩,⟨d,e,f⟩⟩ ys g p≤255) (w:World) (hsl:Sl w .i64 ha ys) (Far:Nat→Prop) (hfx:ys ≠ [] → ∀ b,ha.map (·.block)=some b→Far b) (ts:List Tr) (hG:Good ts) (ht:Tr.can g N ⟨0,0,0⟩∈ts) (hlen:(Tr.add (Tr.can (zAd N ⟨⟨a,b,c⟩,⟨d,e,f⟩⟩ ys g) N ⟨0,0,0⟩) ts).length≤4000000) (hFar : ∀ k,Far k→k<w.heap.size) (hS:StoreIs w Far sb most ts) :
 Calls Tryz.prog 31 #[.pointer (some ⟨sb,0,none⟩),(idT ts (Tr.can g N ⟨0,0,0⟩):Int),.int .i64 ((N:Int)+2),.agg #[a,b,c,d,e,f,.slice ha ys.length hcp]] w (Done Far sb most ts (Tr.add (Tr.can (zAd N ⟨⟨a,b,c⟩,⟨d,e,f⟩⟩ ys g) N ⟨0,0,0⟩) ts) (Tr.can (zAd N ⟨⟨a,b,c⟩,⟨d,e,f⟩⟩ ys g) N ⟨0,0,0⟩) w):=by
 have hap:=Bx.mk fun W=>zF5 a b c d e f W;have hch:=Bx.mk fun gb gd W Far' h1 h2 h3 h4=>zCn hN (zH4 hN gb gd sb a b c d e f ha hcp ys hSB hyl hY hcap most g) hg hg' W Far' h1 h2 ts List.nil_prefix hG ht hlen h3 h4;have HF:=Bx.mk hFar;have HS:=Bx.mk hS;have HSl:=Bx.mk hsl;have Hfx:=Bx.mk hfx;clear hg hg' hG ht hlen hFar hS hsl hSB hyl hY hcap hfx;generalize Tr.can (zAd N ⟨⟨a,b,c⟩,⟨d,e,f⟩⟩ ys g) N ⟨0,0,0⟩=T at *;go_enter Tryz.func31,Tryz.ntmps31;go_upto_region 1 with fail;generalize hW:World.alloc w _=W;have hSz:W.heap.size=w.heap.size+1:=by rw [←hW];simp
 have hB:=bl1 hW;have kb:Bk W w.heap.size #[a,b,c,d,e,f,.slice ha ys.length hcp] 28:=bk0 hW;clear hW;obtain ⟨b0,b1,b2,b3,b4,b5⟩:=kb.c6;go_wp2_with fail;refine (hap.out _).mono ?_;rintro _ w2 ⟨rfl,kd,hb⟩;clear b0 b1 b2 b3 b4 b5;have hbs:=hb.size;rw [hSz] at kd;have hB5:=hB.trans (hb.mono hB.size);go_wp2_with fail;refine (hch.out w.heap.size (w.heap.size+1) w2 (fun x=>Far x∨(w.heap.size≤x∧x<w2.heap.size)) ?_ ⟨kb.later hb,kd,HSl.out.below hB5⟩ ?_ ?_).mono ?_
 · intro k hk;have hd:=kd.lt;rcases hk with rfl | rfl | ⟨hn,hk⟩
   · right;omega
   · right;omega
   · exact .inl (Hfx.out hn k hk)
 · intro k hk;rcases hk with hk | hk
   · exact Nat.lt_of_lt_of_le (HF.out k hk) hB5.size
   · exact hk.2
 · exact (HS.out.widen (Far':=fun x=>Far x∨(w.heap.size≤x∧x<w2.heap.size)) (fun k hk=>hk.imp id (fun h=>h.1))).later hB5
 · intro e' w' hd;have Hd:=Bx.mk (hd.less (Far:=Far) (Keeps.below hB5) (fun k hk=>.inl hk));obtain ⟨-,-,(⟨hf,rfl,hs⟩ | ⟨hf,rfl,hs⟩)⟩:=hd
   all_goals
    clear hf hs;go_wp2_with fail
    go_ret2
    exact Hd.out
end
section
open Go.RowKit Go.Sort Go.Maps
open Oct
structure SS (w0:World) (sb:Nat) (ts:List Tr) (W:World):Prop where
 bel:Below w0.heap.size w0 W
 st:StoreIs W (fun k=>k<w0.heap.size) sb 100 ts
theorem SS.later {w0 W W':World} {sb:Nat} {ts:List Tr} (h:SS w0 sb ts W) (hb:Below W.heap.size W W'):SS w0 sb ts W':=⟨h.bel.trans (hb.mono h.bel.size),h.st.later hb⟩
theorem SS.far {w0 W:World} {sb:Nat} {ts:List Tr} (h:SS w0 sb ts W) : ∀ k,k<w0.heap.size→k<W.heap.size:=fun k hk=>Nat.lt_of_lt_of_le hk h.bel.size
theorem SS.keep {w0 W W':World} {sb:Nat} {ts:List Tr} (h:SS w0 sb ts W) (hk:Keeps (fun k=>k<w0.heap.size) W W'):Below w0.heap.size w0 W' :=
 h.bel.trans ⟨hk.os,hk.tape,hk.output,hk.size,fun k hk'=>hk.block k hk' (h.far k hk')⟩
theorem SS.done {w0 W W':World} {sb:Nat} {ts ts':List Tr} {t:Tr} {e:Ending} (h:SS w0 sb ts W) (hd:Done (fun k=>k<w0.heap.size) sb 100 ts ts' t W e W') (hl:ts'.length≤100):e=zAv (idT ts' t:Int) 0∧SS w0 sb ts' W':=by
 rcases hd.way with ⟨_,h2,h3⟩ | ⟨hn,_⟩
 · exact ⟨h2,h.keep hd.keeps,h3⟩
 · exact absurd (Or.inr (by omega)) hn
noncomputable def s1:List Tr:=Tr.add (.uni 0) []
noncomputable def s2:List Tr:=Tr.add (Tr.can gB 1 O3) s1
noncomputable def s3:List Tr:=Tr.add (Tr.can gC 1 O3) s2
noncomputable def s4:List Tr:=Tr.add (Tr.can gD 1 O3) s3
theorem l1:s1.length≤1:=by unfold s1;rw [Tr.add_uni];exact zLo _ _
theorem l2:s2.length≤10:=by have h:=zE8 gB s1;have:=l1;unfold s2;omega
theorem l3:s3.length≤19:=by have h:=zE8 gC s2;have:=l2;unfold s3;omega
theorem l4:s4.length≤28:=by have h:=zE8 gD s3;have:=l3;unfold s4;omega
theorem good1:Good s1:=Good.uni ⟨Tr.Closed.nil,fun t h=>by cases h⟩ (by decide)
theorem good2:Good s2:=zAV _ good1 (zAm cellB 1 _ (by omega))
theorem zN0:Good s3:=zAV _ good2 (zAm cellC 1 _ (by omega))
theorem zGg:Good s4:=zAV _ zN0 (zAm cellD 1 _ (by omega))
theorem p12:s1 <+: s2:=Tr.add_prefix _ _
theorem p23:s2 <+: s3:=Tr.add_prefix _ _
theorem p34:s3 <+: s4:=Tr.add_prefix _ _
theorem mA1:Tr.can gA 1 O3∈s1:=by rw [zOM];exact Tr.mem_add _ _
theorem mB2:Tr.can gB 1 O3∈s2:=Tr.mem_add _ _
theorem mC3:Tr.can gC 1 O3∈s3:=Tr.mem_add _ _
theorem mD4:Tr.can gD 1 O3∈s4:=Tr.mem_add _ _
theorem mA2:Tr.can gA 1 O3∈s2:=p12.subset mA1
theorem mA3:Tr.can gA 1 O3∈s3:=p23.subset mA2
theorem mA4:Tr.can gA 1 O3∈s4:=p34.subset mA3
theorem mB3:Tr.can gB 1 O3∈s3:=p23.subset mB2
theorem mB4:Tr.can gB 1 O3∈s4:=p34.subset mB3
theorem mC4:Tr.can gC 1 O3∈s4:=p34.subset mC3
noncomputable def iA:Int:=(idT s4 (Tr.can gA 1 O3):Int)
noncomputable def iB:Int:=(idT s4 (Tr.can gB 1 O3):Int)
noncomputable def iC:Int:=(idT s4 (Tr.can gC 1 O3):Int)
noncomputable def iD:Int:=(idT s4 (Tr.can gD 1 O3):Int)
theorem eA1:(idT s1 (Tr.can gA 1 O3):Int)=iA:=by unfold iA;rw [zi (p12.trans (p23.trans p34)) mA1]
theorem eA2:(idT s2 (Tr.can gA 1 O3):Int)=iA:=by unfold iA;rw [zi (p23.trans p34) mA2]
theorem eA3:(idT s3 (Tr.can gA 1 O3):Int)=iA:=by unfold iA;rw [zi p34 mA3]
theorem eB2:(idT s2 (Tr.can gB 1 O3):Int)=iB:=by unfold iB;rw [zi (p23.trans p34) mB2]
theorem eC3:(idT s3 (Tr.can gC 1 O3):Int)=iC:=by unfold iC;rw [zi p34 mC3]
variable {w0:World} {sb:Nat}
theorem sn_uni (W:World) (h:SS w0 sb [] W):Calls Tryz.prog 20 #[.pointer (some ⟨sb,0,none⟩),(0:Int)] W fun e W'=>e=zAv iA 0∧SS w0 sb s1 W':=by
 refine (zBD W _ sb 100 [] 0 (by decide) ⟨Tr.Closed.nil,fun t h=>by cases h⟩ (by simp) h.far h.st).mono ?_
 rintro e W' ⟨hk,hs,hw⟩;rcases hw with ⟨_,h2,h3⟩ | ⟨hn,_⟩
 · refine ⟨?_,h.keep hk,h3⟩;rw [h2,←eA1,zOM];rfl
 · exact absurd (Or.inr (by have:=l1;unfold s1 at this;omega)) hn
theorem zK6 (W:World) (h:SS w0 sb s1 W):Calls Tryz.prog 21 #[.pointer (some ⟨sb,0,none⟩),iA,(3:Int),.agg #[(0:Int),(0:Int),(0:Int),(8:Int),(8:Int),(4:Int)],(5:Int)] W fun e W'=>e=zAv iB 0∧SS w0 sb s2 W':=by
 have hc:=zDf (N:=1) (by decide) sb 0 0 0 8 8 4 5 (by decide) 100 gA zE2 cellB W _ s1 good1 mA1 (by have:=l2;unfold s2 at this;exact Nat.le_trans this (by decide)) h.far h.st
 rw [show (idT s1 (Tr.can gA 1 ⟨0,0,0⟩):Int)=iA from eA1] at hc;refine Calls.mono hc ?_;intro e W' hd;have:=SS.done (ts':=s2) (t:=Tr.can gB 1 O3) h hd (by have:=l2;omega)
 rw [eB2] at this;exact this
theorem zK5 (W:World) (h:SS w0 sb s2 W):Calls Tryz.prog 21 #[.pointer (some ⟨sb,0,none⟩),iA,(3:Int),.agg #[.int .i64 (-9),.int .i64 (-9),.int .i64 (-9),(9:Int),(9:Int),(9:Int)],(5:Int)] W fun e W'=>e=zAv iC 0∧SS w0 sb s3 W':=by
 have hc:=zDf (N:=1) (by decide) sb (-9) (-9) (-9) 9 9 9 5 (by decide) 100 gA zE2 cellC W _ s2 good2 mA2 (by have:=l3;unfold s3 at this;exact Nat.le_trans this (by decide)) h.far h.st
 rw [show (idT s2 (Tr.can gA 1 ⟨0,0,0⟩):Int)=iA from eA2] at hc;refine Calls.mono hc ?_;intro e W' hd;have:=SS.done (ts':=s3) (t:=Tr.can gC 1 O3) h hd (by have:=l3;omega)
 rw [eC3] at this;exact this
theorem slc1 {W:World} {g:Nat} {x y z o n:Int} (hb:Bk W g #[x,y,z,o,n] 41):SlC W (some ⟨g,0,none⟩) [⟨x,y,z,o,n⟩]:=by
 intro i c hi;cases i with
 | zero =>
   obtain rfl:=Option.some.inj hi;exact ⟨g,0,rfl,hb.cell 0 rfl,hb.cell 1 rfl,hb.cell 2 rfl,hb.cell 3 rfl,hb.cell 4 rfl⟩
 | succ i=>simp at hi
theorem sn_wr1 (W:World) (g cap:Nat) (hcap:1≤cap) (hb:Bk W g #[(8:Int),(0:Int),(0:Int),(0:Int),(1:Int)] 41) (h:SS w0 sb s3 W):Calls Tryz.prog 10 #[.pointer (some ⟨sb,0,none⟩),iA,(3:Int),.slice (some ⟨g,0,none⟩) 1 cap] W fun e W'=>e=zAv 0 1∧SS w0 sb s3 W':=by
 have hbad : ¬ ∀ c∈[(⟨8,0,0,0,1⟩:Chg)],zCh 1 c:=fun h=>by
  have:=(h _ (List.mem_singleton.2 rfl)).1
  revert this;decide
 have hc:=zCZ (N:=1) (by decide) sb (some ⟨g,0,none⟩) cap [⟨8,0,0,0,1⟩] (by decide) hcap 100 gA zE2 W (slc1 hb) _ s3 zN0 mA3 (fun hok=>absurd hok hbad) h.far h.st
 rw [show (idT s3 (Tr.can gA 1 ⟨0,0,0⟩):Int)=iA from eA3] at hc;refine Calls.mono hc ?_;intro e W' hd;obtain ⟨h1,h2⟩:=hd.bad hbad;exact ⟨h1,h.later h2⟩
theorem sn_wr2 (W:World) (g cap:Nat) (hcap:1≤cap) (hb:Bk W g #[(1:Int),(2:Int),(3:Int),(0:Int),(1:Int)] 41) (h:SS w0 sb s3 W):Calls Tryz.prog 10 #[.pointer (some ⟨sb,0,none⟩),iA,(3:Int),.slice (some ⟨g,0,none⟩) 1 cap] W fun e W'=>e=zAv iD 0∧SS w0 sb s4 W':=by
 have hok : ∀ c∈[(⟨1,2,3,0,1⟩:Chg)],zCh 1 c:=fun c hc=>by
  obtain rfl:=List.mem_singleton.1 hc;exact ⟨by decide,by decide,by decide⟩
 have hc:=zCZ (N:=1) (by decide) sb (some ⟨g,0,none⟩) cap [⟨1,2,3,0,1⟩] (by decide) hcap 100 gA zE2 W (slc1 hb) _ s3 zN0 mA3 (fun _=>⟨cellD,by have:=l4;unfold s4 at this;exact Nat.le_trans this (by decide)⟩) h.far h.st
 rw [show (idT s3 (Tr.can gA 1 ⟨0,0,0⟩):Int)=iA from eA3] at hc;refine Calls.mono hc ?_;intro e W' hd;exact SS.done (ts':=s4) (t:=Tr.can gD 1 O3) h (hd.ok hok) (by have:=l4;omega)
theorem zK4 (W:World) (h:SS w0 sb s3 W):Calls Tryz.prog 25 #[.pointer (some ⟨sb,0,none⟩),iA,(3:Int),.agg #[(4:Int),(0:Int),(0:Int),(3:Int)],iA] W fun e W'=>e=zAv 0 1∧SS w0 sb s3 W':=by
 have hc:=zHh sb 1 (by decide) iA 4 0 0 3 iA (by unfold zJZ;decide) W
 exact Calls.mono hc fun e W' hd=>⟨hd.1,h.later hd.2⟩
theorem zK8 (W:World) (h:SS w0 sb s4 W):Calls Tryz.prog 27 #[.pointer (some ⟨sb,0,none⟩),iA,iB,(3:Int)] W fun e W' => ∃ v,e = .returned v∧W'.ownsRow W.heap.size 52 4 v 4 (zAg [(⟨0,0,0⟩,0),(⟨4,0,0⟩,0),(⟨0,4,0⟩,0),(⟨4,4,0⟩,0)])∧Below W.heap.size W W':=by
 have hc:=zFE 100 s4 zGg (by have:=l4;omega) sb 1 (by decide) _ _ mA4 mB4 W _ h.st
 rw [zOM,canB,show (⟨0,0,0⟩:Pt)=O3 from rfl,diffAB,←zOM,←canB] at hc;exact hc
theorem zK7 (W:World) (h:SS w0 sb s4 W):Calls Tryz.prog 27 #[.pointer (some ⟨sb,0,none⟩),iA,iC,(3:Int)] W fun e W' => ∃ v,e = .returned v∧W'.ownsRow W.heap.size 52 4 v 1 (zAg [(⟨0,0,0⟩,1)])∧Below W.heap.size W W':=by
 have hc:=zFE 100 s4 zGg (by have:=l4;omega) sb 1 (by decide) _ _ mA4 mC4 W _ h.st
 rw [zOM,canC,show (⟨0,0,0⟩:Pt)=O3 from rfl,diffAC,←zOM,←canC] at hc;exact hc
theorem zK9 (W:World) (h:SS w0 sb s4 W):Calls Tryz.prog 29 #[.pointer (some ⟨sb,0,none⟩),iB,(3:Int),(5:Int)] W fun e W'=>e = .returned (.int .i64 256)∧Below W.heap.size W W':=by
 have hc:=zHi 100 s4 zGg (by have:=l4;omega) sb 1 (by decide) _ mB4 (zA5 gB 1 O3) 5 W _ h.st
 rw [canB,show (⟨0,0,0⟩:Pt)=O3 from rfl,cntB,←canB] at hc;exact hc
theorem zM5 (W:World) (g cap:Nat) (hb:Bk W g #[(1:Int)] 3) (h:SS w0 sb s4 W):Calls Tryz.prog 30 #[.pointer (some ⟨sb,0,none⟩),iD,(3:Int),.agg #[(1:Int),(2:Int),(3:Int),(2:Int),(3:Int),(4:Int)],.slice (some ⟨g,0,none⟩) 1 cap] W fun e W'=>e = .returned (.bool true)∧Below W.heap.size W W':=by
 have hc:=zGy 100 s4 zGg (by have:=l4;omega) sb 1 (by decide) _ mD4 (zA5 gD 1 O3) 1 2 3 2 3 4 (some ⟨g,0,none⟩) cap [1] (by decide) W (fun i x hi=>by
  cases i with
  | zero=>obtain rfl:=Option.some.inj hi;exact ⟨g,0,rfl,hb.cell 0 rfl⟩
  | succ i=>simp at hi) _ h.st
 rw [zOZ,show (⟨0,0,0⟩:Pt)=O3 from rfl,hasD,←zOZ] at hc;exact hc
theorem zM4 (W:World) (g cap:Nat) (hb:Bk W g #[(1:Int),(2:Int)] 3) (h:SS w0 sb s4 W):Calls Tryz.prog 30 #[.pointer (some ⟨sb,0,none⟩),iD,(3:Int),.agg #[(2:Int),(2:Int),(3:Int),(9:Int),(9:Int),(9:Int)],.slice (some ⟨g,0,none⟩) 2 cap] W fun e W'=>e = .returned (.bool false)∧Below W.heap.size W W':=by
 have hc:=zGy 100 s4 zGg (by have:=l4;omega) sb 1 (by decide) _ mD4 (zA5 gD 1 O3) 2 2 3 9 9 9 (some ⟨g,0,none⟩) cap [1,2] (by decide) W (fun i x hi=>by
  match i,hi with
  | 0,hi=>obtain rfl:=Option.some.inj hi;exact ⟨g,0,rfl,hb.cell 0 rfl⟩
  | 1,hi=>obtain rfl:=Option.some.inj hi;exact ⟨g,0,rfl,hb.cell 1 rfl⟩
  | i+2,hi=>simp at hi) _ h.st
 rw [zOZ,show (⟨0,0,0⟩:Pt)=O3 from rfl,hasD2,←zOZ] at hc;exact hc
theorem zK3 (W:World) (h:SS w0 sb s4 W):Calls Tryz.prog 32 #[.pointer (some ⟨sb,0,none⟩),iD] W fun e W' => ∃ v i,e = .returned v∧Own W' W.heap.size 3 .i64 v [i,iA,iD]∧Below W.heap.size W W':=by
 have hc:=zHg 100 s4 zGg (by have:=l4;omega) sb 1 (by decide) _ mD4 (zA5 gD 1 O3) W _ h.st
 refine Calls.mono hc ?_;rintro e W' ⟨v,rfl,ho,hb⟩;refine ⟨v,(idT s4 (.brick brD):Int),rfl,?_,hb⟩;rw [zOZ,addD] at ho;simp only [zJj,List.map_cons,List.map_nil] at ho;unfold iA iD;rw [zOM,zOZ];exact ho
theorem zK2 (W:World) (g cap:Nat) (hcap:1≤cap) (hg:w0.heap.size≤g) (hb:Bk W g #[(1:Int)] 3) (V:World) (hv:SS w0 sb s4 V) (hVW:Below V.heap.size V W) (hgV:V.heap.size≤g):Calls Tryz.prog 31 #[.pointer (some ⟨sb,0,none⟩),iA,(3:Int),.agg #[(1:Int),(2:Int),(3:Int),(2:Int),(3:Int),(4:Int),.slice (some ⟨g,0,none⟩) 1 cap]] W fun e W'=>e=zAv iD 0∧SS w0 sb s4 W':=by
 have h:=hv.later hVW;have hS:StoreIs W (fun k=>k<w0.heap.size∨k=g) sb 100 s4:=(hv.st.widen (Far':=fun k=>k<w0.heap.size∨k=g) (fun k hk=>hk.imp (fun h=>h) (fun (e:k=g)=>by omega))).later hVW
 have he:Tr.add (Tr.can gP 1 O3) s4=s4:=by rw [canP];exact Tr.add_same _ _ mD4
 have hc:=zHe (N:=1) (by decide) sb 1 2 3 2 3 4 (some ⟨g,0,none⟩) cap [1] ⟨by decide,by decide,by decide,by decide,by decide,by decide⟩ (by decide) (by decide) hcap 100 gA zE2 cellP W (fun i x hi=>by
  cases i with
  | zero=>obtain rfl:=Option.some.inj hi;exact ⟨g,0,rfl,hb.cell 0 rfl⟩
  | succ i => simp at hi) (fun k => k < w0.heap.size ∨ k = g) (fun _ b hb' => .inr (Option.some.inj hb').symm) s4 zGg mA4 (by
    rw [show Tr.can (zAd 1 ⟨⟨1,2,3⟩,⟨2,3,4⟩⟩ [1] gA) 1 ⟨0,0,0⟩=Tr.can gP 1 O3 from rfl,he];exact Nat.le_trans l4 (by decide)) (fun k hk=>by
    rcases hk with hk | rfl
    · exact h.far k hk
    · exact hb.lt) hS
 refine Calls.mono hc ?_;intro e W' hd;rw [show Tr.can (zAd 1 ⟨⟨1,2,3⟩,⟨2,3,4⟩⟩ [1] gA) 1 ⟨0,0,0⟩=Tr.can gP 1 O3 from rfl,he,canP] at hd;rcases hd.way with ⟨_,h2,h3⟩ | ⟨hn,_⟩
 · exact ⟨h2,h.bel.trans ⟨hd.keeps.os,hd.keeps.tape,hd.keeps.output,hd.keeps.size,fun k hk'=>hd.keeps.block k (.inl hk') (h.far k hk')⟩,h3.less (fun k hk=>.inl hk)⟩
 · exact absurd (Or.inl rfl) hn
end
end Go.Proofs.YtfcbajmjaifjlaaGreatDoor
