/- M39, M40, M41: joined by program. -/
import Derived.Test.YtfcbajmjaifjlaaGreatM12
import Derived.RangeFuncNested
import Derived.RangeFuncBound
import Derived.RangeFuncCalls
import Derived.RangeFuncLeaves
import Derived.Shelf.RegionOpen
import Derived.OwnWalkIn
import Derived.TacticsInMore
import Derived.LoopNIn
import Derived.LoopIn
import Derived.OrdersIn
set_option maxHeartbeats 4000000
set_option maxRecDepth 100000
set_option linter.all false
attribute [local simp] Go.Op.operands Go.Call.operands
namespace Go.Proofs.YtfcbajmjaifjlaaGreat
section
open Go.RowKit Go.Sort Go.Maps
open Oct
theorem Bk.put8' {w:World} {g:Nat} {x0 x1 x2 x3 x4 x5 x6 x7:Value} {t:TypeId} (h:Bk w g #[x0,x1,x2,x3,x4,x5,x6,x7] t) (a b c d e f i j:Value) :
 Bk ((((((((w.setCell ⟨g,0,none⟩ a).setCell ⟨g,1,none⟩ b).setCell ⟨g,2,none⟩ c).setCell ⟨g,3,none⟩ d).setCell ⟨g,4,none⟩ e).setCell ⟨g,5,none⟩ f).setCell ⟨g,6,none⟩ i).setCell ⟨g,7,none⟩ j) g #[a,b,c,d,e,f,i,j] t:=by
 simpa using (((((((h.set 0 a).set 1 b).set 2 c).set 3 d).set 4 e).set 5 f).set 6 i).set 7 j
theorem zBA (o:Oper) (h:o.op = .alloc 108) (ρ:Operand→Value) (w:World) :
 (execOp ρ o).run Tryz.prog w = .ok (.value (.pointer (some ⟨w.heap.size,0,none⟩))) (w.alloc (.cells #[(0:Int),(0:Int),(0:Int),(0:Int),(0:Int),(0:Int),(0:Int),(0:Int)] 108)):=by
 unfold execOp;simp only [h];go_simp
 try rfl
theorem zMs (o:Oper) (tp tu:Tmp) (h:o.op = .store 108 (.tmp tp) (.tmp tu)) (z0 z1 z2 z3 z4 z5 z6 z7:Value) (y0 y1 y2 y3 y4 y5 y6 y7:Int) (ρ:Operand→Value) (w:World) (g:Nat) (h1:ρ (.tmp tp) = .pointer (some ⟨g,0,none⟩))
 (h2:ρ (.tmp tu) = .agg #[y0,y1,y2,y3,y4,y5,y6,y7]) (hb:Bk w g #[z0,z1,z2,z3,z4,z5,z6,z7] 108) :
 ∃ w',(execOp ρ o).run Tryz.prog w = .ok .skip w'∧Bk w' g #[y0,y1,y2,y3,y4,y5,y6,y7] 108∧w.grownBy w' (some g)∧w'.heap.size=w.heap.size:=by
 have c0:=hb.cell 0 rfl;have f0:=hb.frozen 0;have c1:=hb.cell 1 rfl;have f1:=hb.frozen 1;have c2:=hb.cell 2 rfl;have f2:=hb.frozen 2;have c3:=hb.cell 3 rfl;have f3:=hb.frozen 3;have c4:=hb.cell 4 rfl;have f4:=hb.frozen 4;have c5:=hb.cell 5 rfl;have f5:=hb.frozen 5;have c6:=hb.cell 6 rfl;have f6:=hb.frozen 6;have c7:=hb.cell 7 rfl;have f7:=hb.frozen 7;refine ⟨_,?_,hb.put8' _ _ _ _ _ _ _ _,zW (zW (zW (zW (zW (zW (zW (zW (World.grownBy.refl w _) _ _) _ _) _ _) _ _) _ _) _ _) _ _) _ _,by simp⟩
 unfold execOp;simp only [h];go_simp
structure DL (w0 w:World) (Av Av2:Nat→Prop) (ps po pv sb gx gy:Nat) (ts:List Tr) (T U:Tr) (a:Pt) (lv:Int) (L:List (Pt × Nat)) (wr:World):Prop where
 st:DSt w0 Av2 ps po pv sb L wr
 kc:Bk wr w.heap.size #[a.x,a.y,a.z,lv] 39
 kx:wr.rowIs gx 108 8 (fun j=>.int .i64 (idT ts (zG9 T j):Int))
 ky:wr.rowIs gy 108 8 (fun j=>.int .i64 (idT ts (zG9 U j):Int))
 keep : ∀ k,Av k→k ≠ po→wr.heap[k]? = w.heap[k]?
theorem zEb (m:Nat) (hm:m≤11) (a:Pt) (hx:0≤a.x∧a.x≤16384) (hy:0≤a.y∧a.y≤16384) (hz:0≤a.z∧a.z≤16384) (UA:Int) (ts:List Tr) (Od:ts.length≤4194304) (T U:Tr) (hT:T∈ts) (hU:U∈ts) (Ph:T ≠ U) (hl:(isU T && isU U)=false) (ps po pv sb:Nat) (w0 w:World) (Av:Nat→Prop) (L:List (Pt × Nat)) (D:Nat→List (Pt × Nat)) (H:DSt w0 Av ps po pv sb L w) (hS:StoreIs w (fun k=>w0.heap.size≤k) sb UA ts) (D0:D 0=[])
 (IH:Bx (∀ (k:Nat),k<8 → ∀ (Av':Nat→Prop) (W:World),(∀ j,Av j→Av' j)→Below w0.heap.size w0 W→DSt w0 Av' ps po pv sb (L++D k) W→Calls Tryz.prog 67 #[zO (a.x+chX k (2 ^ (m+2))) (a.y+chY k (2 ^ (m+2))) (a.z+chZ k (2 ^ (m+2))) ((m:Int)+2),(idT ts (zG9 T k):Int),(idT ts (zG9 U k):Int),.pointer (some ⟨ps,0,none⟩),.pointer (some ⟨po,0,none⟩),.pointer (some ⟨pv,0,none⟩)] W (DPost w0 Av' ps po pv sb (L++D (k+1)) W))) :
 Calls Tryz.prog 67 #[zO a.x a.y a.z ((m:Int)+3),(idT ts T:Int),(idT ts U:Int),.pointer (some ⟨ps,0,none⟩),.pointer (some ⟨po,0,none⟩),.pointer (some ⟨pv,0,none⟩)] w (DPost w0 Av ps po pv sb (L++D 8) w):=by
 have Hk:=Bx.mk fun W (h:StoreIs W (fun k=>w0.heap.size≤k) sb UA ts)=>zj _ sb UA ts T hT Od W h;have Cy:=Bx.mk fun W (h:StoreIs W (fun k=>w0.heap.size≤k) sb UA ts)=>zj _ sb UA ts U hU Od W h;have OB:=Bx.mk fun W (h:StoreIs W (fun k=>w0.heap.size≤k) sb UA ts)=>zHK _ sb UA ts T hT Od W h;have OC:=Bx.mk fun W (h:StoreIs W (fun k=>w0.heap.size≤k) sb UA ts)=>zHK _ sb UA ts U hU Od W h;have Lk:=Bx.mk (fun W i hi=>zCy (m+2) (by omega) a.x a.y a.z i hi (by omega) (by omega) (by omega) W)
 rw [show ((m+2+1:Nat):Int)=(m:Int)+3 by omega,show ((m+2:Nat):Int)=(m:Int)+2 by omega] at Lk
 have t0:((idT ts T:Int) == (idT ts U:Int))=false:=by
  simp only [beq_eq_false_iff_ne,ne_eq];intro e;exact Ph (zY hT hU (by omega))
 have t1:((m:Int)+3 == 2)=false:=by simp;omega
 have hk:Bx (zi T=1→zi U=1→False):=⟨fun h1 h2=>by
  have h3:isU T=true:=by cases T <;> first | rfl | (simp [zi] at h1)
  have h4:isU U=true:=by cases U <;> first | rfl | (simp [zi] at h2)
  rw [h3,h4] at hl;cases hl⟩
 have HS:=Bx.mk hS;have HH:=Bx.mk H;generalize zi T=kT at *;generalize zi U=kU at *;clear H hS Ph hl hT hU Od hx hy hz hm;go_enter Tryz.func67,Tryz.ntmps67;go_upto_region 1 with fail;generalize hW:w.alloc _=W;have hb:=bl1 hW;have kc:Bk W w.heap.size #[a.x,a.y,a.z,((m:Int)+3:Int)] 39:=bk0 hW;clear hW;have HW:=Bx.mk (HH.o.la hb);have By:=Bx.mk (HS.o.la hb);have KS:=Bx.mk HW.o.ks;have KC:=Bx.mk kc;have HB:=Bx.mk hb;have c3:=kc.cell 3 rfl;have s0:=HW.o.ks.cell 0 rfl;clear hb kc;go_upto_region 2 with fail
 go_cut [16] from 17 to 31 (fun v wx=>v = .bool false∧wx=W)
 case first =>
  by_cases h2:kT=1
  · have t2:(kT == 1)=true:=by simp [h2]
    have t3:(kU == 1)=false:=by simp;exact fun h=>hk.o h2 h
    clear h2 hk;go_wp2_with (first | ((with_reducible refine (Hk.o W By.o).mono ?_);rintro _ _ ⟨rfl,rfl⟩) | ((with_reducible refine (Cy.o W By.o).mono ?_);rintro _ _ ⟨rfl,rfl⟩))
    go_meet
    exact ⟨rfl,rfl⟩
  · have t2:(kT == 1)=false:=by simp [h2]
    clear h2 hk;go_wp2_with (first | ((with_reducible refine (Hk.o W By.o).mono ?_);rintro _ _ ⟨rfl,rfl⟩) | ((with_reducible refine (Cy.o W By.o).mono ?_);rintro _ _ ⟨rfl,rfl⟩))
    go_meet
    exact ⟨rfl,rfl⟩
 case rest =>
 obtain ⟨rfl,hw⟩:=hcut;replace hw:=hw.symm;subst hw;clear t0 t1 c3 s0 hk;go_upto_region 4 with fail;have Ft : ∀ dk osk,(grow (redrawn W dk) osk).cell? ⟨ps,0,none⟩=some (.pointer (some ⟨sb,0,none⟩)):=cq (KS.o.cell 0 rfl);have q0:=Bx.mk fun dk osk=>(OB.o (grow (redrawn W dk) osk) (By.o.la (bq W dk osk)));have q1:=Bx.mk fun dk osk=>(OC.o (grow (redrawn W dk) osk) (By.o.la (bq W dk osk)));refine zAI 6 2 (fun j=>[9,10].getD j 0) (fun j=>[38,41].getD j 0) (fun j=>[108,108].getD j 0) (fun _=>#[.int .i64 0,.int .i64 0,.int .i64 0,.int .i64 0,.int .i64 0,.int .i64 0,.int .i64 0,.int .i64 0]) (fun j=>[#[.int .i64 (idT ts (T.kid 0):Int),.int .i64 (idT ts (T.kid 1):Int),.int .i64 (idT ts (T.kid 2):Int),.int .i64 (idT ts (T.kid 3):Int),.int .i64 (idT ts (T.kid 4):Int),.int .i64 (idT ts (T.kid 5):Int),.int .i64 (idT ts (T.kid 6):Int),.int .i64 (idT ts (T.kid 7):Int)],#[.int .i64 (idT ts (U.kid 0):Int),.int .i64 (idT ts (U.kid 1):Int),.int .i64 (idT ts (U.kid 2):Int),.int .i64 (idT ts (U.kid 3):Int),.int .i64 (idT ts (U.kid 4):Int),.int .i64 (idT ts (U.kid 5):Int),.int .i64 (idT ts (U.kid 6):Int),.int .i64 (idT ts (U.kid 7):Int)]].getD j #[]) (by kernel_rfl) (by kernel_rfl) ⟨fun j hj=>?_,fun j hj=>?_⟩ 57 (by kernel_rfl) (by rfl) ?_
 · match j,hj with
   | 0,_=>exact ⟨_,rfl,rfl,rfl,zBA _ rfl⟩
   | 1,_=>exact ⟨_,rfl,rfl,rfl,zBA _ rfl⟩
   | j+2,hj=>omega
 · match j,hj with
   | 0,_=>exact ⟨_,rfl,rfl,rfl,fun ρ w g h1 h2 hb=>zMs _ 9 38 rfl _ _ _ _ _ _ _ _ _ _ _ _ _ _ _ _ ρ w g h1 h2 hb⟩
   | 1,_=>exact ⟨_,rfl,rfl,rfl,fun ρ w g h1 h2 hb=>zMs _ 10 41 rfl _ _ _ _ _ _ _ _ _ _ _ _ _ _ _ _ ρ w g h1 h2 hb⟩
   | j+2,hj=>omega
 simp only [List.take_succ_cons,List.take_zero]
 repeat (refine zOT (fun K hK=>?_);go_simp;first | (refine hK _ ?_;clear hK K) | (apply Exists.intro;refine ⟨fun _=>?_,hK _ ?_⟩;(first | ((with_reducible refine (q0.o _ _).mono ?_);exact fun _ _ h=>by simpa using h) | ((with_reducible refine (q1.o _ _).mono ?_);exact fun _ _ h=>by simpa using h));clear hK K))
 refine zOS ⟨fun j hj=>match j,hj with | 0,_=>rfl | 1,_=>rfl | j+2,hj=>absurd hj (by omega),fun g W1 hb hg Ph=>?_⟩
 obtain ⟨hs,ks⟩:=hg 0 (by omega)
 obtain ⟨hd,kd⟩:=hg 1 (by omega)
 have UE:=Ph 0 1 (by omega) (by omega) (by omega)
 clear hg Ph Ft q0 q1;simp only [zKg,List.range_succ,List.range_zero,List.nil_append,List.cons_append,List.map_cons,List.map_nil,List.foldl_cons,List.foldl_nil,List.getD_cons_zero,List.getD_cons_succ];generalize g 0=gx at *;generalize g 1=gy at *;replace ks:Bk W1 gx #[(idT ts (T.kid 0):Int),(idT ts (T.kid 1):Int),(idT ts (T.kid 2):Int),(idT ts (T.kid 3):Int),(idT ts (T.kid 4):Int),(idT ts (T.kid 5):Int),(idT ts (T.kid 6):Int),(idT ts (T.kid 7):Int)] 108:=ks;replace kd:Bk W1 gy #[(idT ts (U.kid 0):Int),(idT ts (U.kid 1):Int),(idT ts (U.kid 2):Int),(idT ts (U.kid 3):Int),(idT ts (U.kid 4):Int),(idT ts (U.kid 5):Int),(idT ts (U.kid 6):Int),(idT ts (U.kid 7):Int)] 108:=kd;have Ku:=tr HB.o hb;have O4:=KC.o.lt
 have HK:=Bx.mk (HH.o.avoid (Av':=fun k=>Av k∨k=w.heap.size∨k=gx∨k=gy) Ku (fun k hk=>by
  have:=HB.o.size;rcases hk with hk | rfl | rfl | rfl
  · exact .inl hk
  · right;omega
  · right;omega
  · right;omega) (fun k hk=>by
  rcases hk with hk | rfl | rfl | rfl
  · exact nll (HH.o.lt k hk) Ku.size
  · exact nll O4 hb.size
  · exact ks.lt
  · exact kd.lt) ⟨.inl HH.o.av.1,.inl HH.o.av.2.1,.inl HH.o.av.2.2⟩)
 have RJ : ∀ (V:Tr) (g:Nat),Bk W1 g #[(idT ts (V.kid 0):Int),(idT ts (V.kid 1):Int),(idT ts (V.kid 2):Int),(idT ts (V.kid 3):Int),(idT ts (V.kid 4):Int),(idT ts (V.kid 5):Int),(idT ts (V.kid 6):Int),(idT ts (V.kid 7):Int)] 108→W1.rowIs g 108 8 (fun j=>.int .i64 (idT ts (zG9 V j):Int)):=fun V g h=>⟨_,h,rfl,fun i hi=>by
  have Nh:i<8:=hi
  show _=some (Value.int .i64 (idT ts (zG9 V i):Int))
  rw [zHA V Nh];rcases i with _ | _ | _ | _ | _ | _ | _ | _ | i
  all_goals first | rfl | omega⟩
 have HI:Bx (DL w0 w Av (fun k=>Av k∨k=w.heap.size∨k=gx∨k=gy) ps po pv sb gx gy ts T U a ((m:Int)+3) (L++D 0) W1):=⟨⟨by rw [D0,List.append_nil];exact HK.o,KC.o.la hb,RJ T gx ks,RJ U gy kd,zBe Ku HH.o.lt⟩⟩
 have NW:w.heap.size<gx∧w.heap.size<gy:=by have:=HB.o.size;omega
 clear hs ks hd kd UE Ku O4 HK RJ hb HW By KS KC HB OB OC;go_wp2_with fail
 go_loopw [42] (fun v42 wr => ∃ k:Nat,k≤8∧v42 = .int .i64 k∧Bx (DL w0 w Av (fun k=>Av k∨k=w.heap.size∨k=gx∨k=gy) ps po pv sb gx gy ts T U a ((m:Int)+3) (L++D k) wr)) (fun i _=>8 - (intOf i).toNat)
 case atStart=>exact ⟨0,Nat.zero_le _,rfl,HI⟩
 case round =>
  clear HI;obtain ⟨k,hk,rfl,HI⟩:=hrel;by_cases hlt:k<8
  · have t0:decide ((k:Int)<8)=true:=by simp;omega
    have b1:(0:Int)≤(k:Int):=by omega
    have b2:(k:Int)<8:=by omega
    have KV:=Bx.mk HI.o.st.kv;have KC:=Bx.mk HI.o.kc;have HX:=Bx.mk HI.o.kx;have HY:=Bx.mk HI.o.ky;have Ll:=Bx.mk fun W=>Lk.o W k hlt;go_upto_region 8 with fail
    refine zAL 10 (fun i v w'=>match i with
     | 0=>v=zEW ps po pv
     | 1=>v=zO a.x a.y a.z ((m:Int)+3)
     | 2=>v = .int .i64 (k:Int)
     | 3=>v=zO (a.x+chX k (2 ^ (m+2))) (a.y+chY k (2 ^ (m+2))) (a.z+chZ k (2 ^ (m+2))) ((m:Int)+2)
     | 4=>v = .int .i64 (k:Int)
     | 5=>v = .pointer (some ⟨gx,k,none⟩)
     | 6=>v = .int .i64 (idT ts (zG9 T k):Int)
     | 7=>v = .int .i64 (k:Int)
     | 8=>v = .pointer (some ⟨gy,k,none⟩)
     | _=>v = .int .i64 (idT ts (zG9 U k):Int)) (by kernel_rfl) (by kernel_rfl) 57 (by kernel_rfl) (by rfl) ?_ ?_ ?_
    · intro i hi v u1 u2 hb h
      match i,hi with
      | 0,_=>exact h
      | 1,_=>exact h
      | 2,_=>exact h
      | 3,_=>exact h
      | 4,_=>exact h
      | 5,_=>exact h
      | 6,_=>exact h
      | 7,_=>exact h
      | 8,_=>exact h
      | 9,_=>exact h
    · intro i o hi ho ρ w1 hb L3 L5 L6 hk
      match i,hi with
      | 0, _ =>
        obtain rfl:=osi ho;have g0:ρ (.tmp 5) = .pointer (some ⟨pv,0,none⟩):=hk 5 (by simp)
        have k1:=KV.o.la hb;have z0:=k1.cell 0 rfl;clear hk hb IH Lk HI HH HS;go_simp;exact br
      | 1, _ =>
        obtain rfl:=osi ho;have g0:ρ (.tmp 6) = .pointer (some ⟨w.heap.size,0,none⟩):=hk 6 (by simp)
        have k1:=KC.o.la hb;obtain ⟨z0,z1,z2,z3⟩:=k1.c4;clear hk hb IH Lk HI HH HS;go_simp;exact br
      | 2, _ =>
        obtain rfl:=osi ho;have g0:ρ (.tmp 11) = .int .i64 (k:Int):=hk 11 (by simp)
        clear hk hb IH Lk HI HH HS;go_simp;exact br
      | 3, _ =>
        obtain rfl:=osi ho;have g0:ρ (.tmp 46)=zO a.x a.y a.z ((m:Int)+3):=hk 46 (by simp)
        have g1:ρ (.tmp 47) = .int .i64 (k:Int):=hk 47 (by simp)
        have h4:=Ll.o w1;have H4:=Bx.mk h4;clear h4;clear hk hb IH Lk HI HH HS;go_simp
        all_goals exact H4.o
      | 4, _ =>
        obtain rfl:=osi ho;have g0:ρ (.tmp 11) = .int .i64 (k:Int):=hk 11 (by simp)
        clear hk hb IH Lk HI HH HS;go_simp;exact br
      | 5, _ =>
        obtain rfl:=osi ho;have g0:ρ (.tmp 9) = .pointer (some ⟨gx,0,none⟩):=hk 9 (by simp)
        have g1:ρ (.tmp 49) = .int .i64 (k:Int):=hk 49 (by simp)
        clear hk hb IH Lk HI HH HS;go_simp;exact br
      | 6, _ =>
        obtain rfl:=osi ho;have g0:ρ (.tmp 50) = .pointer (some ⟨gx,k,none⟩):=hk 50 (by simp)
        have z0:=(HX.o.of_block (hb.block gx HX.o.lt)).cell hlt;clear hk hb IH Lk HI HH HS;go_simp;exact br
      | 7, _ =>
        obtain rfl:=osi ho;have g0:ρ (.tmp 11) = .int .i64 (k:Int):=hk 11 (by simp)
        clear hk hb IH Lk HI HH HS;go_simp;exact br
      | 8, _ =>
        obtain rfl:=osi ho;have g0:ρ (.tmp 10) = .pointer (some ⟨gy,0,none⟩):=hk 10 (by simp)
        have g1:ρ (.tmp 52) = .int .i64 (k:Int):=hk 52 (by simp)
        clear hk hb IH Lk HI HH HS;go_simp;exact br
      | 9, _ =>
        obtain rfl:=osi ho;have g0:ρ (.tmp 53) = .pointer (some ⟨gy,k,none⟩):=hk 53 (by simp)
        have z0:=(HY.o.of_block (hb.block gy HY.o.lt)).cell hlt;clear hk hb IH Lk HI HH HS;go_simp;exact br
    · intro vs W1 Od hb hR
      match vs,Od with
      | [v0, v1, v2, v3, v4, v5, v6, v7, v8, v9], _ =>
        have r0:v0=zEW ps po pv:=hR 0 v0 rfl;have r1:v1=zO a.x a.y a.z ((m:Int)+3):=hR 1 v1 rfl;have r2:v2 = .int .i64 (k:Int):=hR 2 v2 rfl;have r3:v3=zO (a.x+chX k (2 ^ (m+2))) (a.y+chY k (2 ^ (m+2))) (a.z+chZ k (2 ^ (m+2))) ((m:Int)+2):=hR 3 v3 rfl;have r4:v4 = .int .i64 (k:Int):=hR 4 v4 rfl;have r5:v5 = .pointer (some ⟨gx,k,none⟩):=hR 5 v5 rfl;have r6:v6 = .int .i64 (idT ts (zG9 T k):Int):=hR 6 v6 rfl;have r7:v7 = .int .i64 (k:Int):=hR 7 v7 rfl;have r8:v8 = .pointer (some ⟨gy,k,none⟩):=hR 8 v8 rfl;have r9:v9 = .int .i64 (idT ts (zG9 U k):Int):=hR 9 v9 rfl;have S4:=HI.o.st.la hb;have Sh:=Bx.mk (IH.o k hlt _ W1 (fun j hj=>.inl hj) S4.bel S4);have AH:=Bx.mk hb;subst r0 r1 r2 r3 r4 r5 r6 r7 r8 r9;clear hR S4 hb KV KC HX HY Ll;simp only [zKg,List.take_succ_cons,List.take_zero,List.drop_succ_cons,List.drop_zero,List.map_cons,List.map_nil,List.zip_cons_cons,List.zip_nil_right,List.foldl_cons,List.foldl_nil];go_wp2_with fail;refine Sh.o.mono ?_;rintro _ w5 hp;obtain ⟨rfl,S5,O8⟩:=hp;have Tg:Bk w5 w.heap.size #[a.x,a.y,a.z,((m:Int)+3:Int)] 39:=(O8 _ (.inr (.inl rfl)) (by have:=HH.o.lt _ HH.o.av.2.1;omega)).trans (HI.o.kc.la AH.o)
        have Ql:=HH.o.lt _ HH.o.av.2.1;have HJ:Bx (DL w0 w Av (fun k=>Av k∨k=w.heap.size∨k=gx∨k=gy) ps po pv sb gx gy ts T U a ((m:Int)+3) (L++D (k+1)) w5):=⟨⟨S5,Tg,HI.o.kx.of_block ((O8 gx (.inr (.inr (.inl rfl))) (by omega)).trans (AH.o.block gx HI.o.kx.lt)),HI.o.ky.of_block ((O8 gy (.inr (.inr (.inr rfl))) (by omega)).trans (AH.o.block gy HI.o.ky.lt)),fun j hj Ph=>((O8 j (.inl hj) Ph).trans (AH.o.block j (HI.o.st.lt j (.inl hj)))).trans (HI.o.keep j hj Ph)⟩⟩
        clear S5 O8 Tg Ql HI AH Sh;go_wp2_with fail
        go_roundw
        case rel=>exact ⟨k+1,by omega,by go_num,HJ⟩
        case measure=>simp [intOf];omega
  · obtain rfl:k=8:=by omega
    have t0:decide (((8:Nat):Int)<8)=false:=by decide
    go_wp2_with fail
    go_end0
    exact ⟨rfl,HI.o.st.avoid br (fun k hk=>.inl (.inl hk)) (fun k hk=>HI.o.st.lt k (.inl hk)) HH.o.av,HI.o.keep⟩
theorem zES : ∀ (n:Nat) (a:Pt) (t u:Tr),(zER n a t u).length≤8 ^ n
 | 0,a,t,u=>by unfold zER;split <;> simp
 | n + 1, a, t, u => by
   unfold zER;split
   · simp
   · split
     · simp;exact Nat.one_le_pow _ _ (by decide)
     · have key : ∀ l:List (Fin 8),(l.flatMap fun i=>zER n (Tr.cor a n i.val) (t.kid i) (u.kid i)).length≤l.length * 8 ^ n:=by
        intro l
        induction l with
        | nil=>simp
        | cons i r ih =>
          rw [List.flatMap_cons,List.length_append,List.length_cons,Nat.add_mul,Nat.one_mul];have:=zES n (Tr.cor a n i.val) (t.kid i) (u.kid i);omega
       have:=key (List.finRange 8);rw [List.length_finRange] at this;rw [Nat.pow_succ,Nat.mul_comm (8 ^ n) 8];exact this
theorem zEO (n:Nat) (a:Pt) (t u:Tr) (k:Nat):(zEM n a t u k).length≤k * 8 ^ n:=by
 unfold zEM
 have key : ∀ l:List (Fin 8),(l.flatMap fun i=>zER n (Tr.cor a n i.val) (t.kid i) (u.kid i)).length≤l.length * 8 ^ n:=by
  intro l
  induction l with
  | nil=>simp
  | cons i r ih =>
    rw [List.flatMap_cons,List.length_append,List.length_cons,Nat.add_mul,Nat.one_mul];have:=zES n (Tr.cor a n i.val) (t.kid i) (u.kid i);omega
 exact nlt (key _) (Nat.mul_le_mul_right _ (List.length_take_le _ _))
theorem zEd (UA:Int) (ts:List Tr) (hG:Good ts) (Od:ts.length≤4194304) (ps po pv sb N:Nat) (hN:N≤12) (w0:World) (hS:StoreIs w0 (fun k=>w0.heap.size≤k) sb UA ts) :
 ∀ (n : Nat) (a : Pt) (_hin : InT N n a) (T U : Tr) (_hT : T ∈ ts) (_hU : U ∈ ts) (Av : Nat → Prop) (W : World) (L : List (Pt × Nat)), L.length + 8 ^ n ≤ 1000000000000 → DSt w0 Av ps po pv sb L W →
   Calls Tryz.prog 67 #[zO a.x a.y a.z ((n:Int)+2),(idT ts T:Int),(idT ts U:Int),.pointer (some ⟨ps,0,none⟩),.pointer (some ⟨po,0,none⟩),.pointer (some ⟨pv,0,none⟩)] W (DPost w0 Av ps po pv sb (L++zER n a T U) W):=by
 intro n
 induction n with
 | zero =>
   intro a hin T U hT hU Av W L hL H;by_cases e:T=U
   · subst e;rw [zET,List.append_nil];exact zEc _ _ _ _ _ ps po pv sb w0 W Av L H
   · rw [zEV e];exact zEa 0 (by omega) a UA ts Od T U hT hU e (.inl rfl) ps po pv sb w0 W Av L (by omega) H ((hS.less (fun k h=>h.elim)).la H.bel)
 | succ n ih =>
   intro a hin T U hT hU Av W L hL H;have hp:0<8 ^ n:=Nat.pow_pos (by decide)
   have OY:=hin.le;rw [Nat.pow_succ] at hL;by_cases e:T=U
   · subst e;rw [zET,List.append_nil];exact zEc _ _ _ _ _ ps po pv sb w0 W Av L H
   · cases hu:(isU T && isU U) with
     | true =>
       rw [Bool.and_eq_true] at hu;rw [zEU e hu.1 hu.2];exact zEa (n+1) (by omega) a UA ts Od T U hT hU e (.inr (by rw [hu.1,hu.2];rfl)) ps po pv sb w0 W Av L (by omega) H ((hS.less (fun k h=>h.elim)).la H.bel)
     | false =>
       obtain ⟨b1,b2,b3⟩:=hin.bd hN;rw [←zEN n a T U e hu,show (((n+1:Nat):Int)+2)=(n:Int)+3 by omega]
       refine zEb n (by omega) a b1 b2 b3 UA ts Od T U hT hU e hu ps po pv sb w0 W Av L (zEM n a T U) H (hS.la H.bel) (zEQ _ _ _ _) ⟨fun k hk Av' W' Jn hb S4=>?_⟩
       have h1:=zEO n a T U k;have h3:k * 8 ^ n≤7 * 8 ^ n:=Nat.mul_le_mul_right _ (by omega)
       have h:=ih (Tr.cor a n k) (hin.kid hk) (T.kid ⟨k,hk⟩) (U.kid ⟨k,hk⟩) (zHG hG hT _) (zHG hG hU _) Av' W' (L++zEM n a T U k) (by rw [List.length_append];omega) S4
       rw [List.append_assoc,←zEP n a T U hk] at h;rw [zHA T hk,zHA U hk];exact h
theorem zNL (UA:Int) (ts:List Tr) (hG:Good ts) (Od:ts.length≤4194304) (sb n:Nat) (hn:n≤12) (T U:Tr) (hT:T∈ts) (hU:U∈ts) (w:World) (Far:Nat→Prop) (hS:StoreIs w Far sb UA ts) :
 Calls Tryz.prog 19 #[.pointer (some ⟨sb,0,none⟩),(idT ts T:Int),(idT ts U:Int),((n:Int)+2:Int)] w fun e w' => ∃ v,e = .returned v∧w'.ownsRow w.heap.size 39 4 v (zER n ⟨0,0,0⟩ T U).length (zP (zER n ⟨0,0,0⟩ T U))∧Below w.heap.size w w':=by
 have Sv:=Bx.mk fun W=>zOJ ((n:Int)+2) W;have h8:8 ^ n≤1000000000000:=nlt (Nat.pow_le_pow_right (by decide) hn) (by decide)
 have Sh:=Bx.mk fun Av W H=>zEd UA ts hG Od w.heap.size (w.heap.size+1) (w.heap.size+1+1) sb n hn w ((hS.less (Far:=fun _=>False) (fun k h=>h.elim)).widen (fun k hk=>.inr hk)) n ⟨0,0,0⟩ (InT.top n) T U hT hU Av W [] (by simpa using h8) H
 simp only [List.nil_append] at Sh;clear hG Od hn hT hU hS h8;go_enter Tryz.func19,Tryz.ntmps19;go_upto_region 4 with fail;generalize hW:((w.alloc _).alloc _).alloc _=W;have hB:=bl3 hW;have ks:Bk W (w.heap.size) #[.pointer (some ⟨sb,0,none⟩)] 32:=bk2 hW;have ko:Bk W (w.heap.size+1) #[.slice none 0 0] 51:=bk1 hW;have kv:Bk W (w.heap.size+1+1) #[zEW w.heap.size (w.heap.size+1) (w.heap.size+1+1)] 115:=bk0 hW;clear hW
 have HD:=Bx.mk (show DSt w (fun k=>k=w.heap.size∨k=w.heap.size+1∨k=w.heap.size+1+1) w.heap.size (w.heap.size+1) (w.heap.size+1+1) sb [] W from
  ⟨hB,ks,kv,⟨_,ko,World.ownsRow_nil _ _ _ _,fun g hg=>by cases hg⟩,⟨by omega,by omega,by omega⟩,⟨.inl rfl,.inr (.inl rfl),.inr (.inr rfl)⟩,⟨by omega,by omega⟩,fun k hk=>by
   rcases hk with rfl | rfl | rfl
   · exact ks.lt
   · exact ko.lt
   · exact kv.lt⟩)
 have KV:=Bx.mk kv;clear ks ko kv hB
 refine zAL 5 (fun i v w'=>match i with
  | 0=>v=zEW w.heap.size (w.heap.size+1) (w.heap.size+1+1)
  | 1=>v = .int .i64 ((n:Int)+2)
  | 2=>v=zO 0 0 0 ((n:Int)+2)
  | 3=>v = .int .i64 (idT ts T:Int)
  | _=>v = .int .i64 (idT ts U:Int)) (by kernel_rfl) (by kernel_rfl) 19 (by kernel_rfl) (by rfl) ?_ ?_ ?_
 · intro i hi v u1 u2 hb h
   match i,hi with
   | 0,_=>exact h
   | 1,_=>exact h
   | 2,_=>exact h
   | 3,_=>exact h
   | 4,_=>exact h
 · intro i o hi ho ρ w1 hb L3 L5 L6 hk
   match i,hi with
   | 0, _ =>
     obtain rfl:=osi ho;have g0:ρ (.tmp 10) = .pointer (some ⟨w.heap.size+1+1,0,none⟩):=hk 10 (by simp)
     have k1:=KV.o.la hb;have z0:=k1.cell 0 rfl;clear hk hb Sh Sv HD;go_simp;exact br
   | 1, _ =>
     obtain rfl:=osi ho;have g0:ρ (.tmp 3) = .int .i64 ((n:Int)+2):=hk 3 (by simp)
     clear hk hb Sh Sv HD;go_simp;exact br
   | 2, _ =>
     obtain rfl:=osi ho;have g0:ρ (.tmp 13) = .int .i64 ((n:Int)+2):=hk 13 (by simp)
     have h4:=Sv.o w1;have H4:=Bx.mk h4;clear h4;clear hk hb Sh Sv HD;go_simp
     all_goals exact H4.o
   | 3, _ =>
     obtain rfl:=osi ho;have g0:ρ (.tmp 1) = .int .i64 (idT ts T:Int):=hk 1 (by simp)
     clear hk hb Sh Sv HD;go_simp;exact br
   | 4, _ =>
     obtain rfl:=osi ho;have g0:ρ (.tmp 2) = .int .i64 (idT ts U:Int):=hk 2 (by simp)
     clear hk hb Sh Sv HD;go_simp;exact br
 · intro vs W1 Od hb hR
   match vs,Od with
   | [v0, v1, v2, v3, v4], _ =>
     have r0:v0=zEW w.heap.size (w.heap.size+1) (w.heap.size+1+1):=hR 0 v0 rfl;have r1:v1 = .int .i64 ((n:Int)+2):=hR 1 v1 rfl;have r2:v2=zO 0 0 0 ((n:Int)+2):=hR 2 v2 rfl;have r3:v3 = .int .i64 (idT ts T:Int):=hR 3 v3 rfl;have r4:v4 = .int .i64 (idT ts U:Int):=hR 4 v4 rfl;clear hR;subst r0 r1 r2 r3 r4;have hq:=Bx.mk (Sh.o _ W1 (HD.o.la hb));clear hb Sh HD KV Sv;simp only [zKg,List.take_succ_cons,List.take_zero,List.drop_succ_cons,List.drop_zero,List.map_cons,List.map_nil,List.zip_cons_cons,List.zip_nil_right,List.foldl_cons,List.foldl_nil];go_wp2_with fail;refine hq.o.mono ?_;rintro _ w5 ⟨rfl,S4,-⟩;obtain ⟨v,k1,k2,k3⟩:=S4.ko;have A8:=Bx.mk S4.bel;have HR:=Bx.mk k2;have o0:=k1.cell 0 rfl;clear S4 k1 k2 k3 hq;go_wp2_with fail;go_ret;exact ⟨v,rfl,HR.o,A8.o⟩
theorem zAt {ts:List Tr} (hG:Good ts) : ∀ (t:Tr),t∈ts → ∀ us:List Tr,(∀ x∈us,x∈ts) → ∀ x∈Tr.add t us,x∈ts
 | .uni c, ht, us, hs => by
   rw [Tr.add_uni];intro x hx;rcases Tr.of_mem_ins hx with h | rfl
   · exact hs _ h
   · exact ht
 | .brick l, ht, us, hs => by
   rw [Tr.add_brick];intro x hx;rcases Tr.of_mem_ins hx with h | rfl
   · exact hs _ h
   · exact ht
 | .node d ch, ht, us, hs => by
   rw [Tr.add_node];split
   · exact hs
   · intro x hx;rw [List.mem_append] at hx;rcases hx with hx | hx
     · exact Tr.addK_ind (P:=fun a => ∀ x∈a,x∈ts) (fun i a ha=>zAt hG (ch i) (hG.closed.2 d ch ht i) a ha) 8 nlr us hs x hx
     · rw [List.mem_singleton] at hx;subst hx;exact ht
theorem zGt:Keyed Tryz.prog 3:=int_keyed Tryz.underlying3
theorem zG6 (ts:List Tr) (t:Tr) (h:idT ts t≤9223372036854775807):keyOf Tryz.prog 3 (.int .i64 (idT ts t:Int))=some (.int .i64 (idT ts t:Int)):=keyOf_int_mk Tryz.underlying3 (WalkArith.wf_i64 ⟨by omega,by omega⟩)
abbrev zI2 (pm ps pv po:Nat):Value:=.func (.func 86) #[] #[.pointer (some ⟨pm,0,none⟩),.pointer (some ⟨ps,0,none⟩),.pointer (some ⟨pv,0,none⟩),.pointer (some ⟨po,0,none⟩)]
noncomputable abbrev zIm (ts us:List Tr):List Int:=us.map fun t=>(idT ts t:Int)
theorem ne_id {ts:List Tr} {t T:Tr} (ht:t∈ts) (hT:T∈ts) (e : ¬t=T):(Value.int .i64 (idT ts t:Int)) ≠ .int .i64 (idT ts T:Int):=by
 have Ph:idT ts t ≠ idT ts T:=fun h=>e (zY ht hT h);generalize idT ts t=a at *;generalize idT ts T=b at *;intro h;injection h with _ h;omega
structure NSt (w0:World) (ps po pv pm mb sb:Nat) (ts us An:List Tr) (W:World):Prop where
 bel:Below w0.heap.size w0 W
 ks:Bk W ps #[.pointer (some ⟨sb,0,none⟩)] 32
 kv:Bk W pv #[zI2 pm ps pv po] 130
 km:Bk W pm #[.map (some mb)] 129
 ko : ∃ v,Bk W po #[v] 26∧Own W w0.heap.size 3 .i64 v (zIm ts us) ∧ ∀ g,v.ownBlock=some g→g ≠ ps∧g ≠ pv∧g ≠ pm∧g ≠ mb∧g ≠ po
 mp : ∃ f,MapV 3 W mb (us.length+An.length) f ∧ ∀ t∈ts,(t∈us∨t∈An→f (.int .i64 (idT ts t:Int))=some (.bool true))∧(¬(t∈us∨t∈An)→f (.int .i64 (idT ts t:Int))=none)
 ge:w0.heap.size≤ps∧w0.heap.size≤po∧w0.heap.size≤pv∧w0.heap.size≤pm∧w0.heap.size≤mb
 ne:ps ≠ po∧pv ≠ po∧pm ≠ po∧mb ≠ po∧mb ≠ ps∧mb ≠ pv∧mb ≠ pm
theorem NSt.la {w0 W W':World} {ps po pv pm mb sb:Nat} {ts us An:List Tr} (h:NSt w0 ps po pv pm mb sb ts us An W) (hb:Below W.heap.size W W'):NSt w0 ps po pv pm mb sb ts us An W':=by
 obtain ⟨v,k1,k2,k3⟩:=h.ko;obtain ⟨f,f1,f2⟩:=h.mp;exact ⟨tr h.bel hb,h.ks.la hb,h.kv.la hb,h.km.la hb,⟨v,k1.la hb,k2.below hb,k3⟩,⟨f,f1.of_block (hb.block _ f1.lt),f2⟩,h.ge,h.ne⟩
theorem zOz (u:World):(zeroValue 4).run Tryz.prog u = .ok (.bool false) u:=by go_simp
theorem NSt.look {w0 W:World} {ps po pv pm mb sb:Nat} {ts us An:List Tr} (h:NSt w0 ps po pv pm mb sb ts us An W) (Od:ts.length≤4194304) {T:Tr} (hT:T∈ts) :
 ((T∈us∨T∈An)→(Instr.lookup 129 (.map (some mb)) (.int .i64 (idT ts T:Int)) false).run Tryz.prog W = .ok (.bool true) W) ∧
 (¬(T∈us∨T∈An)→(Instr.lookup 129 (.map (some mb)) (.int .i64 (idT ts T:Int)) false).run Tryz.prog W = .ok (.bool false) W):=by
 obtain ⟨f,f1,f2⟩:=h.mp;have hlt:=zGN hT;have hk:=(MapV.look zGt Tryz.underlying129 (zOz W) f1 (zG6 ts T (by omega))).1
 refine ⟨fun hm=>?_,fun hm=>?_⟩
 · rw [(f2 T hT).1 hm] at hk;exact hk
 · rw [(f2 T hT).2 hm] at hk;exact hk
theorem NSt.mark {w0 W:World} {ps po pv pm mb sb:Nat} {ts us An:List Tr} (h:NSt w0 ps po pv pm mb sb ts us An W) (Od:ts.length≤4194304) (hn:us.length+An.length<maxLen) {T:Tr} (hT:T∈ts) :
 ∃ W',(Instr.mapUpdate 129 (.map (some mb)) (.int .i64 (idT ts T:Int)) (.bool true)).run Tryz.prog W = .ok () W'∧NSt w0 ps po pv pm mb sb ts us (T::An) W':=by
 obtain ⟨f,f1,f2⟩:=h.mp;obtain ⟨v,k1,k2,k3⟩:=h.ko;have hlt:=zGN hT;obtain ⟨W',hr,m1,m2,m3⟩:=MapV.put zGt Tryz.underlying129 f1 hn (zG6 ts T (by omega)) (.bool true)
 have KW : ∀ k,k<W.heap.size→k ≠ mb→W'.heap[k]? = W.heap[k]? := fun k hk Ph=>m2.block k hk (fun e=>Ph (osi e));refine ⟨W',hr,⟨?_,(KW _ h.ks.lt (Ne.symm h.ne.2.2.2.2.1)).trans h.ks,(KW _ h.kv.lt (Ne.symm h.ne.2.2.2.2.2.1)).trans h.kv,(KW _ h.km.lt (Ne.symm h.ne.2.2.2.2.2.2)).trans h.km,⟨v,(KW _ k1.lt (Ne.symm h.ne.2.2.2.1)).trans k1,k2.grown m2 ?_,k3⟩,⟨_,by simpa [Nat.add_assoc] using m1,fun t ht=>⟨fun hm=>?_,fun hm=>?_⟩⟩,h.ge,h.ne⟩⟩
 · exact h.bel.trans ⟨m2.os,m2.tape,m2.output,m2.size,fun k hk=>KW k (nll hk h.bel.size) (by have:=h.ge.2.2.2.2;omega)⟩
 · right;intro e;exact (k3 mb e).2.2.2.1 rfl
 · by_cases e:t=T
   · subst e;exact zKc _ _ _
   · have Ph:(Value.int .i64 (idT ts t:Int)) ≠ .int .i64 (idT ts T:Int):=ne_id ht hT e;rw [zKb f _ Ph];refine (f2 t ht).1 (hm.imp_right fun hm=>?_);rcases List.mem_cons.1 hm with rfl | hm
     · exact absurd rfl e
     · exact hm
 · have e:t ≠ T:=fun e=>hm (.inr (e ▸ List.mem_cons_self));have Ph:(Value.int .i64 (idT ts t:Int)) ≠ .int .i64 (idT ts T:Int):=ne_id ht hT e;rw [zKb f _ Ph];exact (f2 t ht).2 fun hm'=>hm (hm'.imp_right fun h=>List.mem_cons_of_mem _ h)
theorem NSt.push {w0 W W3:World} {ps po pv pm mb sb:Nat} {ts us An:List Tr} {T:Tr} {v v':Value} (h:NSt w0 ps po pv pm mb sb ts us (T::An) W) (hk:Bk W po #[v] 26) (hg:W.grownBy W3 v.ownBlock) (QQ:Own W3 w0.heap.size 3 .i64 v' (zIm ts us++[(idT ts T:Int)])) (Jk:v'.ownBlock=v.ownBlock∨(∃ g,v'.ownBlock=some g∧W.heap.size≤g)) :
 NSt w0 ps po pv pm mb sb ts (us++[T]) An (W3.setCell ⟨po,0,none⟩ v'):=by
 obtain ⟨v2,k1,k2,k3⟩:=h.ko
 obtain rfl:v2=v:=by
  have e:=(k1.cell 0 rfl).symm.trans (hk.cell 0 rfl);simpa using e
 obtain ⟨f,f1,f2⟩:=h.mp;have P5:=h.ks.lt;have P6:=h.kv.lt;have P3:=h.km.lt;have P4:=k1.lt;have Ox:=f1.lt
 have Q2 : ∀ g,v'.ownBlock=some g→g ≠ ps∧g ≠ pv∧g ≠ pm∧g ≠ mb∧g ≠ po:=by
  intro g NV;rcases Jk with e | ⟨g',e,hge⟩
  · exact k3 g (e.symm.trans NV)
  · rw [e] at NV;obtain rfl:=osi NV;refine ⟨?_,?_,?_,?_,?_⟩ <;> omega
 have keep : ∀ k,k<W.heap.size→k ≠ po→v2.ownBlock ≠ some k→(W3.setCell ⟨po,0,none⟩ v').heap[k]? = W.heap[k]? := fun k hk Ph Px=>(RowKit.Below.heap_setCell _ _ _ _ (fun e=>Ph e)).trans (hg.block k hk (fun e=>Px e.symm));have Ql:Bk W3 po #[v2] 26:=(hg.block po P4 (fun e=>(k3 po e.symm).2.2.2.2 rfl)).trans k1;have NT:=zX W3 ⟨po,0,none⟩ v';refine ⟨?_,(keep ps P5 h.ne.1 (fun e=>(k3 _ e).1 rfl)).trans h.ks,(keep pv P6 h.ne.2.1 (fun e=>(k3 _ e).2.1 rfl)).trans h.kv,(keep pm P3 h.ne.2.2.1 (fun e=>(k3 _ e).2.2.1 rfl)).trans h.km,⟨v',Bk.put1 Ql v',?_,Q2⟩,⟨f,?_,fun t ht=>?_⟩,h.ge,h.ne⟩
 · refine h.bel.trans ⟨NT.os.trans hg.os,NT.tape.trans hg.tape,NT.output.trans hg.output,nlt hg.size NT.size,fun k hk=>?_⟩;refine keep k (nll hk h.bel.size) (by have:=h.ge.2.1;omega) (fun e=>?_)
   have:=(k2.lt k e).1;omega
 · rw [show zIm ts (us++[T])=zIm ts us++[(idT ts T:Int)] by simp [zIm]]
   exact Own.grown QQ NT (by
    cases hv:v'.ownBlock with
    | none=>exact .inl rfl
    | some g=>exact .inr (fun e=>(Q2 g hv).2.2.2.2 (by injection e)))
 · have:=f1.of_block (keep mb Ox h.ne.2.2.2.1 (fun e=>(k3 _ e).2.2.2.1 rfl));simpa [Nat.add_assoc,Nat.add_comm 1] using this
 · rw [List.mem_append,List.mem_singleton];have:=f2 t ht;rw [List.mem_cons] at this;refine ⟨fun hm=>this.1 ?_,fun hm=>this.2 (fun h=>hm ?_)⟩
   · rcases hm with (hm | hm) | hm
     · exact .inl hm
     · exact .inr (.inl hm)
     · exact .inr (.inr hm)
   · rcases h with h | h | h
     · exact .inl (.inl h)
     · exact .inl (.inr h)
     · exact .inr h
abbrev zAU (w0:World) (ps po pv pm mb sb:Nat) (ts us An:List Tr) (e:Ending) (W':World):Prop:=e = .returned (.tuple #[])∧NSt w0 ps po pv pm mb sb ts us An W'
theorem zI8 (w0 w:World) (ps po pv pm mb sb:Nat) (ts us An:List Tr) (T:Tr) (hT:T∈ts) (Od:ts.length≤4194304) (hm:T∈us) (H:NSt w0 ps po pv pm mb sb ts us An w) :
 Calls Tryz.prog 86 #[(idT ts T:Int),.pointer (some ⟨pm,0,none⟩),.pointer (some ⟨ps,0,none⟩),.pointer (some ⟨pv,0,none⟩),.pointer (some ⟨po,0,none⟩)] w (zAU w0 ps po pv pm mb sb ts us An):=by
 have hl:=(H.look Od hT).1 (.inl hm);have c0:=H.km.cell 0 rfl;have HH:=Bx.mk H;clear H hT Od hm;go_enter Tryz.func86,Tryz.ntmps86;go_wp2_with fail
 go_end0
 exact ⟨rfl,HH.o⟩
theorem zI6 (UA:Int) (w0 w:World) (ps po pv pm mb sb:Nat) (ts us An:List Tr) (T:Tr) (hT:T∈ts) (Od:ts.length≤4194304) (hu:us.length≤4194304) (hA:An.length≤100) (hm:T ∉ us) (PG:T ∉ An) (O7:zi T ≠ 3) (H:NSt w0 ps po pv pm mb sb ts us An w) (hS:StoreIs w0 (fun k=>w0.heap.size≤k) sb UA ts) :
 Calls Tryz.prog 86 #[(idT ts T:Int),.pointer (some ⟨pm,0,none⟩),.pointer (some ⟨ps,0,none⟩),.pointer (some ⟨pv,0,none⟩),.pointer (some ⟨po,0,none⟩)] w (zAU w0 ps po pv pm mb sb ts (us++[T]) An):=by
 have hl:=(H.look Od hT).2 (fun h=>h.elim hm PG);have c0:=H.km.cell 0 rfl;obtain ⟨W,Qt,H1⟩:=H.mark Od (by simp only [maxLen];omega) hT
 have Hk:=zj _ sb UA ts T hT Od W (hS.la H1.bel);have t0:(zi T == 3)=false:=by simpa using O7
 obtain ⟨v,k1,k2,k3⟩:=H1.ko;have s0:=H1.ks.cell 0 rfl;have o0:=k1.cell 0 rfl;have SO:(zIm ts us).length≤1000000000:=by simp;omega
 have HU:=Bx.mk SO;have HK:=Bx.mk Hk;have HH:=Bx.mk H1;have K1:=Bx.mk k1;have K2:=Bx.mk k2;have KH:=Bx.mk H1.bel.size;have Qm:=k1.lt;have DD:=Bx.mk k3;obtain ⟨va,vc,rfl⟩:=zy k2;generalize Ni:(idT ts T:Int)=iT at *;have Az:=Bx.mk Ni;generalize hL:zIm ts us=L at *;have HL:=Bx.mk hL;generalize zi T=kT at *;clear H H1 hT Od hm PG O7 hS Hk k2 k1 k3 SO hu hA Ni hL;go_enter Tryz.func86,Tryz.ntmps86;go_wp2_with (first | ((with_reducible refine HK.o.mono ?_);rintro _ _ ⟨rfl,rfl⟩) | (at_builtin;refine zAG rfl _ _ 26 rfl 3 .i64 (.int .i64 0) 8 (by omega) Tryz.underlying26 (by kernel_rfl) rfl w0.heap.size _ L rfl (K2.o.alloc _) iT ⟨W.heap.size,0,none⟩ 1 rfl (zF _ _ _) HU.o (zk KH.o _) ?_;intro v6 W6 QV NR Jl;obtain ⟨va6,vc6,rfl⟩:=zy QV;have Qs:=Bx.mk (HH.o.push (T:=T) K1.o ((World.grownBy_alloc W _ _).trans NR) (by rw [Az.o,HL.o];exact QV) (Jl.imp (fun h=>h) (fun h=>⟨_,h,by simp⟩)));have k6:Bk W6 po #[.slice va L.length vc] 26:=(NR.block po (by simp;omega) (fun e=>(DD.o po e.symm).2.2.2.2 rfl)).trans (zD K1.o);have o6:=k6.cell 0 rfl;have f6:=k6.frozen 0;clear QV NR Jl k6))
 go_end0
 exact ⟨rfl,by have h:=Qs.o;rw [List.length_append,List.length_singleton] at h;exact h⟩
theorem zI7 (UA:Int) (w0 w:World) (ps po pv pm mb sb:Nat) (ts us An:List Tr) (d:Nat) (ch:Fin 8→Tr) (hT:Tr.node d ch∈ts) (Od:ts.length≤4194304) (hu:us.length≤4194304) (hu8:(Tr.addK ch 8 us).length≤4194304) (hA:An.length≤100) (hm:Tr.node d ch ∉ us) (PG:Tr.node d ch ∉ An) (H:NSt w0 ps po pv pm mb sb ts us An w) (hS:StoreIs w0 (fun k=>w0.heap.size≤k) sb UA ts)
 (IH:Bx (∀ (k:Nat) (hk:k<8) (W:World),NSt w0 ps po pv pm mb sb ts (Tr.addK ch k us) (.node d ch::An) W→Calls Tryz.prog 86 #[(idT ts (ch ⟨k,hk⟩):Int),.pointer (some ⟨pm,0,none⟩),.pointer (some ⟨ps,0,none⟩),.pointer (some ⟨pv,0,none⟩),.pointer (some ⟨po,0,none⟩)] W (zAU w0 ps po pv pm mb sb ts (Tr.addK ch (k+1) us) (.node d ch::An)))) :
 Calls Tryz.prog 86 #[(idT ts (.node d ch):Int),.pointer (some ⟨pm,0,none⟩),.pointer (some ⟨ps,0,none⟩),.pointer (some ⟨pv,0,none⟩),.pointer (some ⟨po,0,none⟩)] w (zAU w0 ps po pv pm mb sb ts (Tr.addK ch 8 us++[.node d ch]) An):=by
 have hl:=(H.look Od hT).2 (fun h=>h.elim hm PG);have c0:=H.km.cell 0 rfl;obtain ⟨W,Qt,H1⟩:=H.mark Od (by simp only [maxLen];omega) hT
 have Hk:=zj _ sb UA ts _ hT Od W (hS.la H1.bel);have Hc:=zMq _ sb UA ts d ch hT W (hS.la H1.bel);have t0:(zi (.node d ch) == 3)=true:=rfl;have s0:=H1.ks.cell 0 rfl;have HK:=Bx.mk Hk;have HC:=Bx.mk Hc;have HH:=Bx.mk H1
 have Nm:Bx (∀ (k:Nat),k<8 → ∀ W,(Instr.index 108 (zHJ ts (.node d ch)) (.int .i64 (k:Int))).run Tryz.prog W = .ok (.int .i64 (idT ts (zG9 (.node d ch) k):Int)) W):=⟨fun k hk W=>by
  rw [zHA _ hk];unfold zHJ;rcases k with _ | _ | _ | _ | _ | _ | _ | _ | k
  all_goals first | rfl | omega⟩
 have SO:Bx ((zIm ts (Tr.addK ch 8 us)).length≤1000000000):=⟨by simp;omega⟩
 generalize Ni:(idT ts (Tr.node d ch):Int)=iT at *;have Az:=Bx.mk Ni;generalize zHJ ts (Tr.node d ch)=kV at *;generalize zi (Tr.node d ch)=kT at *;clear H H1 hT Od hm PG hS Hk Hc hu hu8 hA Ni;go_enter Tryz.func86,Tryz.ntmps86;go_wp2_with (first | ((with_reducible refine HK.o.mono ?_);rintro _ _ ⟨rfl,rfl⟩) | ((with_reducible refine HC.o.mono ?_);rintro _ W2 ⟨rfl,Js⟩));have HI:Bx (NSt w0 ps po pv pm mb sb ts (Tr.addK ch 0 us) (.node d ch::An) W2):=⟨HH.o.la Js⟩;clear Js HH s0 Qt c0 hl HK HC
 go_loopw [20] (fun v20 wr => ∃ k:Nat,k≤8∧v20 = .int .i64 k∧Bx (NSt w0 ps po pv pm mb sb ts (Tr.addK ch k us) (.node d ch::An) wr)) (fun i _=>8 - (intOf i).toNat)
 case atStart=>exact ⟨0,Nat.zero_le _,rfl,HI⟩
 case round =>
  clear HI;obtain ⟨k,hk,rfl,HI⟩:=hrel;by_cases hlt:k<8
  · have t1:decide ((k:Int)<8)=true:=by simp;omega
    have Nz:=Nm.o k hlt;have OP:zG9 (.node d ch) k=ch ⟨k,hlt⟩:=zHA _ hlt;rw [OP] at Nz;have hv:=Bx.mk (IH.o k hlt wr HI.o);have v0:=HI.o.kv.cell 0 rfl;clear OP;generalize (idT ts (ch ⟨k,hlt⟩):Int)=iK at *;go_wp2_with fail;refine hv.o.mono ?_;rintro _ w5 ⟨rfl,S4⟩;have HJ:=Bx.mk S4;clear S4 hv HI Nz v0;go_wp2_with fail
    go_roundw
    case rel=>exact ⟨k+1,by omega,by go_num,HJ⟩
    case measure=>simp [intOf];omega
  · obtain rfl:k=8:=by omega
    have t1:decide (((8:Nat):Int)<8)=false:=by decide
    have H1:=HI.o;obtain ⟨v,k1,k2,k3⟩:=H1.ko;have o0:=k1.cell 0 rfl;have HH:=HI;have K1:=Bx.mk k1;have K2:=Bx.mk k2;have KH:=Bx.mk H1.bel.size;have Qm:=k1.lt;have DD:=Bx.mk k3;obtain ⟨va,vc,rfl⟩:=zy k2;have HU:=SO;generalize hL:zIm ts (Tr.addK ch 8 us)=L at *;have HL:=Bx.mk hL;clear H1 k2 k1 k3 hL HI SO;go_wp2_with (at_builtin;refine zAG rfl _ _ 26 rfl 3 .i64 (.int .i64 0) 8 (by omega) Tryz.underlying26 (by kernel_rfl) rfl w0.heap.size _ L rfl (K2.o.alloc _) iT ⟨wr.heap.size,0,none⟩ 1 rfl (zF _ _ _) HU.o (zk KH.o _) ?_;intro v6 W6 QV NR Jl;obtain ⟨va6,vc6,rfl⟩:=zy QV;have Qs:=Bx.mk (HH.o.push (T:=Tr.node d ch) K1.o ((World.grownBy_alloc wr _ _).trans NR) (by rw [Az.o,HL.o];exact QV) (Jl.imp (fun h=>h) (fun h=>⟨_,h,by simp⟩)));have k6:Bk W6 po #[.slice va L.length vc] 26:=(NR.block po (by simp;omega) (fun e=>(DD.o po e.symm).2.2.2.2 rfl)).trans (zD K1.o);have o6:=k6.cell 0 rfl;have f6:=k6.frozen 0;clear QV NR Jl k6)
    go_end0
    exact ⟨rfl,by have h:=Qs.o;rw [List.length_append,List.length_singleton] at h;exact h⟩
theorem zI9 (UA:Int) (ts:List Tr) (hG:Good ts) (Od:ts.length≤4194304) (ps po pv pm mb sb:Nat) (w0:World) (hS:StoreIs w0 (fun k=>w0.heap.size≤k) sb UA ts) :
 ∀ (T : Tr) (n : Nat) (_hT : T ∈ ts) (_hD : Dep n T) (us An : List Tr) (W : World), (∀ x ∈ us, x ∈ ts) → Tr.Closed us → An.length + n ≤ 50 → (∀ A ∈ An, T.sz < A.sz) → NSt w0 ps po pv pm mb sb ts us An W →
   Calls Tryz.prog 86 #[(idT ts T:Int),.pointer (some ⟨pm,0,none⟩),.pointer (some ⟨ps,0,none⟩),.pointer (some ⟨pv,0,none⟩),.pointer (some ⟨po,0,none⟩)] W (zAU w0 ps po pv pm mb sb ts (Tr.add T us) An)
 | .uni c, n, hT, hD, us, An, W, hs, hC, hA, hz, H => by
   by_cases hm:Tr.uni c∈us
   · rw [Tr.add_same _ _ hm];exact zI8 w0 W ps po pv pm mb sb ts us An _ hT Od hm H
   · rw [Tr.add_uni,Tr.ins_of_not hm];have:=hC.1.length_le_of_subset (l₂:=ts) (fun x hx=>hs x hx);exact zI6 UA w0 W ps po pv pm mb sb ts us An _ hT Od (by omega) (by omega) hm (fun h=>Nat.lt_irrefl _ (hz _ h)) (by simp [zi]) H hS
 | .brick l, n, hT, hD, us, An, W, hs, hC, hA, hz, H => by
   by_cases hm:Tr.brick l∈us
   · rw [Tr.add_same _ _ hm];exact zI8 w0 W ps po pv pm mb sb ts us An _ hT Od hm H
   · rw [Tr.add_brick,Tr.ins_of_not hm];have:=hC.1.length_le_of_subset (l₂:=ts) (fun x hx=>hs x hx);exact zI6 UA w0 W ps po pv pm mb sb ts us An _ hT Od (by omega) (by omega) hm (fun h=>Nat.lt_irrefl _ (hz _ h)) (by simp [zi]) H hS
 | .node d ch, n, hT, hD, us, An, W, hs, hC, hA, hz, H => by
   by_cases hm:Tr.node d ch∈us
   · rw [Tr.add_same _ _ hm];exact zI8 w0 W ps po pv pm mb sb ts us An _ hT Od hm H
   · rw [Tr.add_node,if_neg hm]
     obtain ⟨m,rfl,IL⟩ : ∃ m,n=m+1 ∧ ∀ i,Dep m (ch i):=by
      cases hD with
      | node m _ h=>exact ⟨m,rfl,h⟩
     have OK : ∀ i,ch i∈ts:=hG.closed.2 d ch hT;have S8 : ∀ k,k≤8 → ∀ x∈Tr.addK ch k us,x∈ts:=fun k hk=>Tr.addK_ind (P:=fun a => ∀ x∈a,x∈ts) (fun i a ha=>zAt hG (ch i) (OK i) a ha) k hk us hs;have h1:=hC.1.length_le_of_subset (l₂:=ts) (fun x hx=>hs x hx);have h2:=(Tr.Closed.addK (ch:=ch) hC 8 nlr).1.length_le_of_subset (l₂:=ts) (fun x hx=>S8 8 nlr x hx);refine zI7 UA w0 W ps po pv pm mb sb ts us An d ch hT Od (by omega) (by omega) (by omega) hm (fun h=>Nat.lt_irrefl _ (hz _ h)) H hS ⟨fun k hk W' S4=>?_⟩
     rw [Tr.addK_succ ch hk];refine zI9 UA ts hG Od ps po pv pm mb sb w0 hS (ch ⟨k,hk⟩) m (OK _) (IL _) (Tr.addK ch k us) (.node d ch::An) W' (S8 k (by omega)) (hC.addK k (by omega)) (by rw [List.length_cons];omega) (fun A hA'=>?_) S4
     rcases List.mem_cons.1 hA' with rfl | hA'
     · exact Tr.sz_kid d ch _
     · exact Nat.lt_trans (Tr.sz_kid d ch _) (hz A hA')
theorem zNT (UA:Int) (ts:List Tr) (hG:Good ts) (Od:ts.length≤4194304) (sb n:Nat) (hn:n≤50) (T:Tr) (hT:T∈ts) (hD:Dep n T) (w:World) (Far:Nat→Prop) (hS:StoreIs w Far sb UA ts) :
 Calls Tryz.prog 27 #[.pointer (some ⟨sb,0,none⟩),(idT ts T:Int)] w fun e w' => ∃ v,e = .returned v∧Own w' w.heap.size 3 .i64 v (zIm ts (Tr.add T []))∧Below w.heap.size w w':=by
 have Sh:=Bx.mk fun W H=>zI9 UA ts hG Od w.heap.size (w.heap.size+1) (w.heap.size+1+1+1+1) (w.heap.size+1+1+1) (w.heap.size+1+1) sb w ((hS.less (Far:=fun _=>False) (fun k h=>h.elim)).widen (fun k hk=>.inr hk)) T n hT hD [] [] W (fun x hx=>by cases hx) Tr.Closed.nil (by simpa using hn) (fun A hA=>by cases hA) H
 have PW:=@run_makeMap Tryz.prog;clear hG Od hn hT hD hS;go_enter Tryz.func27,Tryz.ntmps27;go_upto_region 5 with fail;generalize hW:World.alloc (World.alloc _ _) _=W
 have hM:MapV 3 W (w.heap.size+1+1) 0 (fun _=>none):=by
  rw [←hW];have h:=MapV.made 3 ((w.alloc (Obj.cells #[Value.pointer (some ⟨sb,0,none⟩)] 32)).alloc (Obj.cells #[Value.slice none 0 0] 26));have S9:((w.alloc (Obj.cells #[Value.pointer (some ⟨sb,0,none⟩)] 32)).alloc (Obj.cells #[Value.slice none 0 0] 26)).heap.size=w.heap.size+1+1:=by simp
  rw [S9] at h;exact (h.kept (World.grownBy_alloc _ _ none) (by simp)).kept (World.grownBy_alloc _ _ none) (by simp)
 have hB:Below w.heap.size w W:=by rw [←hW];exact (((bf.alloc (by simp) _).alloc (by simp;omega) _).alloc (by simp;omega) _).alloc (by simp;omega) _
 have ks:Bk W (w.heap.size) #[.pointer (some ⟨sb,0,none⟩)] 32:=by rw [←hW];exact zD (zD (zD (zD (zC _ _ _ (by simp)))))
 have ko:Bk W (w.heap.size+1) #[.slice none 0 0] 26:=by rw [←hW];exact zD (zD (zD (zC _ _ _ (by simp))))
 have km:Bk W (w.heap.size+1+1+1) #[.map (some (w.heap.size+1+1))] 129:=bk1 hW;have kv:Bk W (w.heap.size+1+1+1+1) #[zI2 (w.heap.size+1+1+1) w.heap.size (w.heap.size+1+1+1+1) (w.heap.size+1)] 130:=bk0 hW;have HD:=Bx.mk (Sh.o W ⟨hB,ks,kv,km,⟨_,ko,Own.nil _ _ _ _,fun g hg=>by cases hg⟩,⟨_,hM,fun t _=>⟨fun h=>by simp at h,fun _=>rfl⟩⟩,⟨by omega,by omega,by omega,by omega,by omega⟩,⟨by omega,by omega,by omega,by omega,by omega,by omega,by omega⟩⟩)
 have v0:=kv.cell 0 rfl;clear hW hM hB ks ko km kv Sh PW;go_wp2_with fail;refine HD.o.mono ?_;rintro _ w5 ⟨rfl,S4⟩;obtain ⟨v,k1,k2,k3⟩:=S4.ko;have A8:=Bx.mk S4.bel;have HR:=Bx.mk k2;have o0:=k1.cell 0 rfl;clear S4 k1 k2 k3 v0 HD;go_wp2_with fail;go_ret;exact ⟨v,rfl,HR.o,A8.o⟩
end
section
open Go.RowKit Go.Sort Go.Maps
open Oct
attribute [local go_sem] Oper.semAt_some
theorem room_w (k:Nat):Fence.wide.room k:=fun d h=>by cases h
theorem RoundIn.anyDepth' {m m':Nat} {P:Program} {l:Nat} {f:FuncId} {tmps:Array Value} {assign body:Code} {w:World} {R:Ending→World→Prop}
 (h:RoundIn Fence.wide m P l f tmps assign body w R):RoundIn Fence.wide m' P l f tmps assign body w R:=⟨h.1,fun c cs _=>h.2 c cs (room_w _)⟩
theorem YieldAt.anyDepth' {m:Nat} (m':Nat) {P:Program} {l:Nat} {args:Array Value} {W:World} {R:Ending→World→Prop} (h:YieldAt Fence.wide m P l args W R):YieldAt Fence.wide m' P l args W R:=by
 obtain ⟨fn,tmps,assign,body,hy,hR⟩:=h;exact ⟨fn,tmps,assign,body,hy,RoundIn.anyDepth' hR⟩
theorem zH3 (l m ps py pv sb:Nat) (x y z lv id kT:Int) (W:World) (R:Ending→World→Prop) (hR : ∀ e W',R e W' → ∃ b:Bool,e = .returned (.bool b))
 (ks:Bk W ps #[.pointer (some ⟨sb,0,none⟩)] 32) (ky:Bk W py #[.func (.yield l) #[] #[]] 127) (hk:kT ≠ 3)
 (Hk : ∀ W',Below W.heap.size W W'→Calls Tryz.prog 39 #[.pointer (some ⟨sb,0,none⟩),id] W' fun e w'=>e = .returned kT∧W'=w')
 (hY : ∀ W',Below W.heap.size W W'→YieldAt Fence.wide m Tryz.prog l #[zO x y z lv,id] W' R) :
 Calls Tryz.prog 84 #[zO x y z lv,id,.pointer (some ⟨ps,0,none⟩),.pointer (some ⟨py,0,none⟩),.pointer (some ⟨pv,0,none⟩)] W R:=by
 have hb:Below W.heap.size W (World.alloc W (.cells #[x,y,z,lv] 39)):=bf;have HK:=Bx.mk (Hk _ hb);have s0:=(ks.la hb).cell 0 rfl;have y0:=(ky.la hb).cell 0 rfl;have t0:(kT == 3)=false:=by simpa using hk
 obtain ⟨fn,tmps,assign,body,hy,JQ⟩:=hY _ hb;have HY:=Bx.mk JQ;have HR:=Bx.mk hR;clear ks ky Hk hY JQ hb hk hR;refine (callsIn_wide (n:=3)).1 ?_;refine callsIn_of_wp Tryz.func84 rfl trivial ?_ rfl;simp only [Tryz.ntmps84,List.size_toArray,List.length_cons,List.length_nil,Nat.reduceAdd,Nat.reduceSub,Array.replicate_succ,Array.replicate_zero,List.push_toArray,List.append_toArray,List.nil_append,List.cons_append]
 gi_wp2_with (first
  | ((try refine ⟨trivial,?_⟩);gi_at_call 39;refine (callsIn_wide.2 HK.o).mono ?_;rintro _ _ ⟨rfl,rfl⟩)
  | (refine (RoundIn.anyDepth' HY.o).mono ?_;intro e W' hr;obtain ⟨b,rfl⟩:=HR.o e W' hr;have HR':=Bx.mk hr;clear hr))
 exact HR'.o
end
section
open Go.RowKit Go.Sort Go.Maps
open Oct
abbrev zHl (ps py pv:Nat):Value:=.func (.func 84) #[] #[.pointer (some ⟨ps,0,none⟩),.pointer (some ⟨py,0,none⟩),.pointer (some ⟨pv,0,none⟩)]
structure KpE (E:Nat→Prop) (n₀:Nat) (W W':World):Prop where
 os:W'.os=W.os
 tape:W'.tape=W.tape
 output:W'.output=W.output
 size:W.heap.size≤W'.heap.size
 blk : ∀ k o,W.heap[k]? = some o → ¬E k→(k<n₀∨o.isCells=true)→W'.heap[k]? = some o
theorem KpE.refl (E:Nat→Prop) (n₀:Nat) (W:World):KpE E n₀ W W:=⟨rfl,rfl,rfl,nlr,fun _ _ h _ _=>h⟩
theorem KpE.trans {E:Nat→Prop} {n₀:Nat} {A B C:World} (h:KpE E n₀ A B) (h':KpE E n₀ B C):KpE E n₀ A C :=
 ⟨h'.os.trans h.os,h'.tape.trans h.tape,h'.output.trans h.output,nlt h.size h'.size,fun k o hk hE hc=>h'.blk k o (h.blk k o hk hE hc) hE hc⟩
theorem KpE.below {E:Nat→Prop} {n₀:Nat} {W W':World} (h:Below W.heap.size W W'):KpE E n₀ W W' :=
 ⟨h.os,h.tape,h.output,h.size,fun k o hk _ _=>(h.block k (Array.getElem?_eq_some_iff.1 hk).1).trans hk⟩
theorem KpE.bk {E:Nat→Prop} {n₀:Nat} {W W':World} (h:KpE E n₀ W W') {g:Nat} {cs:Array Value} {t:TypeId} (hb:Bk W g cs t) (hE : ¬E g):Bk W' g cs t:=h.blk g _ hb hE (.inr rfl)
theorem KpE.store {E:Nat→Prop} {n₀:Nat} {W W':World} (h:KpE E n₀ W W') {sb:Nat} {UA:Int} {ts:List Tr} (hS:StoreIs W (fun k=>E k∨n₀≤k) sb UA ts):StoreIs W' (fun k=>E k∨n₀≤k) sb UA ts :=
 hS.other (Far:=fun k=>¬E k∧k<n₀) ⟨h.os,h.tape,h.output,h.size,fun k hk hl=>(by
  have e:W.heap[k]? = some W.heap[k]:=Array.getElem?_eq_getElem hl;rw [e];exact h.blk k _ e hk.1 (.inl hk.2))⟩ fun k hk _=>⟨fun h=>hk (.inl h),Nat.lt_of_not_le fun h=>hk (.inr h)⟩
structure LSt (E:Nat→Prop) (n₀ ps py pv sb l:Nat) (UA:Int) (ts:List Tr) (W:World):Prop where
 ks:Bk W ps #[.pointer (some ⟨sb,0,none⟩)] 32
 ky:Bk W py #[.func (.yield l) #[] #[]] 127
 kv:Bk W pv #[zHl ps py pv] 127
 st:StoreIs W (fun k=>E k∨n₀≤k) sb UA ts
 ne : ¬E ps ∧ ¬E py ∧ ¬E pv
 eb : ∀ k,E k→k<n₀
 nb:n₀≤W.heap.size
theorem LSt.kept {E:Nat→Prop} {n₀ ps py pv sb l:Nat} {UA:Int} {ts:List Tr} {W W':World} (h:LSt E n₀ ps py pv sb l UA ts W) (hk:KpE E n₀ W W'):LSt E n₀ ps py pv sb l UA ts W' :=
 ⟨hk.bk h.ks h.ne.1,hk.bk h.ky h.ne.2.1,hk.bk h.kv h.ne.2.2,hk.store h.st,h.ne,h.eb,nlt h.nb hk.size⟩
def zAN (J:List (Pt × Nat × Tr)→World→Prop):Prop := ∀ s W W',J s W→Below W.heap.size W W'→J s W'
def LPost (E:Nat→Prop) (n₀:Nat) (J Jx:List (Pt × Nat × Tr)→World→Prop) (pre L:List (Pt × Nat × Tr)) (W:World) (e:Ending) (W':World):Prop :=
 ∃ b:Bool,e = .returned (.bool b)∧(b=true→J (pre++L) W'∧KpE E n₀ W W')∧(b=false → ∃ q,q <+: L∧Jx (pre++q) W')
structure LL (E:Nat→Prop) (n₀ ps py pv sb l:Nat) (UA:Int) (ts:List Tr) (a:Pt) (lv:Int) (w:World) (JK:World→Prop) (wr:World):Prop where
 st:LSt E n₀ ps py pv sb l UA ts wr
 kc:Bk wr w.heap.size #[a.x,a.y,a.z,lv] 39
 kp:KpE E n₀ w wr
 j:JK wr
theorem zH4 (m:Nat) (hm:m≤11) (a:Pt) (hx:0≤a.x∧a.x≤16384) (hy:0≤a.y∧a.y≤16384) (hz:0≤a.z∧a.z≤16384) (E:Nat→Prop) (n₀ ps py pv sb l:Nat) (UA:Int) (ts:List Tr) (Od:ts.length≤4194304) (d:Nat) (ch:Fin 8→Tr) (hT:Tr.node d ch∈ts)
 (J Jx:List (Pt × Nat × Tr)→World→Prop) (hJ:zAN J) (pre:List (Pt × Nat × Tr)) (D:Nat→List (Pt × Nat × Tr)) (hD : ∀ k,k≤8→D k <+: D 8) (D0:D 0=[]) (Dk:Nat→List (Pt × Nat × Tr)) (DS : ∀ k,k<8→D (k+1)=D k++Dk k) (w:World) (H:LSt E n₀ ps py pv sb l UA ts w) (h0:J pre w)
 (IH:Bx (∀ (k:Nat) (hk:k<8) (W:World),LSt E n₀ ps py pv sb l UA ts W→J (pre++D k) W→Calls Tryz.prog 84 #[zO (a.x+chX k (2 ^ (m+2))) (a.y+chY k (2 ^ (m+2))) (a.z+chZ k (2 ^ (m+2))) ((m:Int)+2),(idT ts (ch ⟨k,hk⟩):Int),.pointer (some ⟨ps,0,none⟩),.pointer (some ⟨py,0,none⟩),.pointer (some ⟨pv,0,none⟩)] W (LPost E n₀ J Jx (pre++D k) (Dk k) W))) :
 Calls Tryz.prog 84 #[zO a.x a.y a.z ((m:Int)+3),(idT ts (.node d ch):Int),.pointer (some ⟨ps,0,none⟩),.pointer (some ⟨py,0,none⟩),.pointer (some ⟨pv,0,none⟩)] w (LPost E n₀ J Jx pre (D 8) w):=by
 have Hk:=Bx.mk fun W (h:StoreIs W (fun k=>E k∨n₀≤k) sb UA ts)=>zj _ sb UA ts _ hT Od W h;have Hc:=Bx.mk fun W (h:StoreIs W (fun k=>E k∨n₀≤k) sb UA ts)=>zMq _ sb UA ts d ch hT W h;have Lk:=Bx.mk (fun W i hi=>zCy (m+2) (by omega) a.x a.y a.z i hi (by omega) (by omega) (by omega) W)
 rw [show ((m+2+1:Nat):Int)=(m:Int)+3 by omega,show ((m+2:Nat):Int)=(m:Int)+2 by omega] at Lk
 have t0:(zi (.node d ch) == 3)=true:=rfl
 have Nm:Bx (∀ (k:Nat),k<8 → ∀ W,(Instr.index 108 (zHJ ts (.node d ch)) (.int .i64 (k:Int))).run Tryz.prog W = .ok (.int .i64 (idT ts (zG9 (.node d ch) k):Int)) W):=⟨fun k hk W=>by
  rw [zHA _ hk];unfold zHJ;rcases k with _ | _ | _ | _ | _ | _ | _ | _ | k
  all_goals first | rfl | omega⟩
 generalize Ni:(idT ts (Tr.node d ch):Int)=iT at *;generalize zHJ ts (Tr.node d ch)=kV at *;generalize zi (Tr.node d ch)=kT at *;have HH:=Bx.mk H;have H0:=Bx.mk h0;have HJ:=Bx.mk hJ;have HD:=Bx.mk hD;have Ab:=Bx.mk DS;have HD0:=Bx.mk D0;clear H h0 hJ hD D0 DS hT Od hx hy hz hm Ni;go_enter Tryz.func84,Tryz.ntmps84;go_upto_region 1 with fail;generalize hW:w.alloc _=W;have hb:=bl1 hW;have kc:Bk W w.heap.size #[a.x,a.y,a.z,((m:Int)+3:Int)] 39:=bk0 hW;clear hW;have HW:=Bx.mk (HH.o.kept (KpE.below hb));have s0:=HW.o.ks.cell 0 rfl;have HK:=Bx.mk (Hk.o W HW.o.st);have HC:=Bx.mk (Hc.o W HW.o.st);have KC:=Bx.mk kc;have HB:=Bx.mk hb;clear kc hb Hk Hc;go_wp2_with (first | ((with_reducible refine HK.o.mono ?_);rintro _ _ ⟨rfl,rfl⟩) | ((with_reducible refine HC.o.mono ?_);rintro _ W2 ⟨rfl,Js⟩))
 have HI:Bx (LL E n₀ ps py pv sb l UA ts a ((m:Int)+3) w (J (pre++D 0)) W2):=⟨⟨HW.o.kept (KpE.below Js),KC.o.la Js,(KpE.below HB.o).trans (KpE.below Js),by
  rw [HD0.o,List.append_nil];exact HJ.o _ _ _ (HJ.o _ _ _ H0.o HB.o) Js⟩⟩
 clear Js HW s0 HK HC KC HB H0
 go_loopw [21] (fun v21 wr => ∃ k:Nat,k≤8∧v21 = .int .i64 k∧Bx (LL E n₀ ps py pv sb l UA ts a ((m:Int)+3) w (J (pre++D k)) wr)) (fun i _=>8 - (intOf i).toNat)
 case atStart=>exact ⟨0,Nat.zero_le _,rfl,HI⟩
 case round =>
  clear HI;obtain ⟨k,hk,rfl,HI⟩:=hrel;by_cases hlt:k<8
  · have t1:decide ((k:Int)<8)=true:=by simp;omega
    have Nz:=Nm.o k hlt;have OP:zG9 (.node d ch) k=ch ⟨k,hlt⟩:=zHA _ hlt;rw [OP] at Nz;have hv:=Bx.mk fun W=>IH.o k hlt W;have Ll:=Bx.mk fun W=>Lk.o W k hlt;have KV:=Bx.mk HI.o.st.kv;have KC:=Bx.mk HI.o.kc;clear OP;generalize (idT ts (ch ⟨k,hlt⟩):Int)=iK at *;go_upto_region 6 with fail
    refine zAL 5 (fun i v w'=>match i with
     | 0=>v=zHl ps py pv
     | 1=>v=zO a.x a.y a.z ((m:Int)+3)
     | 2=>v = .int .i64 (k:Int)
     | 3=>v=zO (a.x+chX k (2 ^ (m+2))) (a.y+chY k (2 ^ (m+2))) (a.z+chZ k (2 ^ (m+2))) ((m:Int)+2)
     | _=>v = .int .i64 (iK:Int)) (by kernel_rfl) (by kernel_rfl) 33 (by kernel_rfl) (by rfl) ?_ ?_ ?_
    · intro i hi v u1 u2 hb h
      match i,hi with
      | 0,_=>exact h
      | 1,_=>exact h
      | 2,_=>exact h
      | 3,_=>exact h
      | 4,_=>exact h
    · intro i o hi ho ρ w1 hb L3 L5 L6 hk
      match i,hi with
      | 0, _ =>
        obtain rfl:=osi ho;have g0:ρ (.tmp 4) = .pointer (some ⟨pv,0,none⟩):=hk 4 (by simp)
        have k1:=KV.o.la hb;have z0:=k1.cell 0 rfl;clear hk hb IH Lk HI HH HJ Nz hv;go_simp;exact br
      | 1, _ =>
        obtain rfl:=osi ho;have g0:ρ (.tmp 5) = .pointer (some ⟨w.heap.size,0,none⟩):=hk 5 (by simp)
        have k1:=KC.o.la hb;obtain ⟨z0,z1,z2,z3⟩:=k1.c4;clear hk hb IH Lk HI HH HJ Nz hv;go_simp;exact br
      | 2, _ =>
        obtain rfl:=osi ho;have g0:ρ (.tmp 8) = .int .i64 (k:Int):=hk 8 (by simp)
        clear hk hb IH Lk HI HH HJ Nz hv;go_simp;exact br
      | 3, _ =>
        obtain rfl:=osi ho;have g0:ρ (.tmp 26)=zO a.x a.y a.z ((m:Int)+3):=hk 26 (by simp)
        have g1:ρ (.tmp 27) = .int .i64 (k:Int):=hk 27 (by simp)
        have h4:=Ll.o w1;have H4:=Bx.mk h4;clear h4;clear hk hb IH Lk HI HH HJ Nz hv;go_simp
        all_goals exact H4.o
      | 4, _ =>
        obtain rfl:=osi ho;have g0:ρ (.tmp 9) = .int .i64 (iK:Int):=hk 9 (by simp)
        clear hk hb IH Lk HI HH HJ Nz hv;go_simp;exact br
    · intro vs W1 Od hb hR
      match vs,Od with
      | [v0, v1, v2, v3, v4], _ =>
        have r0:v0=zHl ps py pv:=hR 0 v0 rfl;have r1:v1=zO a.x a.y a.z ((m:Int)+3):=hR 1 v1 rfl;have r2:v2 = .int .i64 (k:Int):=hR 2 v2 rfl;have r3:v3=zO (a.x+chX k (2 ^ (m+2))) (a.y+chY k (2 ^ (m+2))) (a.z+chZ k (2 ^ (m+2))) ((m:Int)+2):=hR 3 v3 rfl;have r4:v4 = .int .i64 (iK:Int):=hR 4 v4 rfl;clear hR;subst r0 r1 r2 r3 r4;have S4:=HI.o.st.kept (KpE.below hb);have hq:=Bx.mk (hv.o W1 S4 (HJ.o _ _ _ HI.o.j hb));have HB:=Bx.mk hb;have Te:=Bx.mk (HI.o.kc.la hb);clear S4 hb KV KC Ll hv Nz;simp only [zKg,List.take_succ_cons,List.take_zero,List.drop_succ_cons,List.drop_zero,List.map_cons,List.map_nil,List.zip_cons_cons,List.zip_nil_right,List.foldl_cons,List.foldl_nil];go_wp2_with fail;refine hq.o.mono ?_;rintro _ w5 ⟨b,rfl,QZ,Qb⟩;cases b with
        | true =>
          obtain ⟨O1,O8⟩:=QZ rfl;have hlw:w.heap.size<W1.heap.size:=Te.o.lt;have HJ5:Bx (LL E n₀ ps py pv sb l UA ts a ((m:Int)+3) w (J (pre++D (k+1))) w5):=⟨⟨(HI.o.st.kept (KpE.below HB.o)).kept O8,O8.bk Te.o (fun h=>by have h1:=HH.o.eb _ h;have h2:=HH.o.nb;omega),(HI.o.kp.trans (KpE.below HB.o)).trans O8,by rw [Ab.o k hlt,←List.append_assoc];exact O1⟩⟩
          clear QZ Qb O1 O8 hlw HI HB hq Te;go_wp2_with fail
          go_roundw
          case rel=>exact ⟨k+1,by omega,by go_num,HJ5⟩
          case measure=>simp [intOf];omega
        | false =>
          have hx5:=Bx.mk (Qb rfl);clear QZ Qb HI HB hq Te;go_wp2_with fail;go_ret;obtain ⟨q,Qy,hq2⟩:=hx5.o;refine ⟨false,rfl,(fun h=>by cases h),fun _=>⟨D k++q,?_,by rw [←List.append_assoc];exact hq2⟩⟩
          refine List.IsPrefix.trans ?_ (HD.o (k+1) (by omega))
          rw [Ab.o k hlt];obtain ⟨r,hr⟩:=Qy;exact ⟨r,by rw [List.append_assoc,hr]⟩
  · obtain rfl:k=8:=by omega
    have t1:decide (((8:Nat):Int)<8)=false:=by decide
    go_wp2_with fail;go_ret;exact ⟨true,rfl,fun _=>⟨HI.o.j,HI.o.kp⟩,fun h=>by cases h⟩
noncomputable abbrev zHY (ts:List Tr) (x:Pt × Nat × Tr):Array Value:=#[zO x.1.x x.1.y x.1.z ((x.2.1:Int)+2),(idT ts x.2.2:Int)]
theorem zHg (n:Nat) (a:Pt) (ch:Fin 8→Tr) : ∀ k,k≤8→zHd n a ch k <+: zHd n a ch 8:=by
 have key : ∀ j k,k+j≤8→zHd n a ch k <+: zHd n a ch (k+j):=by
  intro j
  induction j with
  | zero=>intro k _;exact List.prefix_refl _
  | succ j ih =>
    intro k h;refine (ih k (by omega)).trans ?_
    rw [show k+(j+1)=(k+j)+1 by omega,zHh n a ch (by omega:k+j<8)]
    exact List.prefix_append _ _
 intro k hk;have:=key (8 - k) k (by omega)
 rwa [show k+(8 - k)=8 by omega] at this
theorem LPost.of_yield {E:Nat→Prop} {n₀:Nat} {J Jx:List (Pt × Nat × Tr)→World→Prop} {pre:List (Pt × Nat × Tr)} {x:Pt × Nat × Tr} {W W1:World} (hk:KpE E n₀ W W1) {e:Ending} {W':World} (h:(e = .returned (.bool true)∧J (pre++[x]) W'∧KpE E n₀ W1 W')∨(e = .returned (.bool false)∧Jx (pre++[x]) W')):LPost E n₀ J Jx pre [x] W e W':=by
 rcases h with ⟨rfl,h1,h2⟩ | ⟨rfl,h1⟩
 · exact ⟨true,rfl,fun _=>⟨h1,hk.trans h2⟩,fun h=>by cases h⟩
 · exact ⟨false,rfl,(fun h=>by cases h),fun _=>⟨[x],List.prefix_refl _,h1⟩⟩
theorem zH5 (E:Nat→Prop) (n₀ ps py pv sb l N:Nat) (hN:N≤12) (UA:Int) (ts:List Tr) (hG:Good ts) (Od:ts.length≤4194304) (J Jx:List (Pt × Nat × Tr)→World→Prop) (hJ:zAN J) (NN:Nat) (Lt:List (Pt × Nat × Tr))
 (hY : ∀ m pre x W,x∈Lt→J pre W→pre.length<NN→YieldAt Fence.wide m Tryz.prog l (zHY ts x) W fun e W'=>(e = .returned (.bool true)∧J (pre++[x]) W'∧KpE E n₀ W W')∨(e = .returned (.bool false)∧Jx (pre++[x]) W')) :
 ∀ (n : Nat) (a : Pt) (_hin : InT N n a) (T : Tr) (_hT : T ∈ ts) (_hD : Dep n T) (_hL : ∀ x ∈ zl n a T, x ∈ Lt) (pre : List (Pt × Nat × Tr)) (W : World), pre.length + (zl n a T).length ≤ NN → LSt E n₀ ps py pv sb l UA ts W → J pre W →
   Calls Tryz.prog 84 #[zO a.x a.y a.z ((n:Int)+2),(idT ts T:Int),.pointer (some ⟨ps,0,none⟩),.pointer (some ⟨py,0,none⟩),.pointer (some ⟨pv,0,none⟩)] W (LPost E n₀ J Jx pre (zl n a T) W):=by
 intro n
 have U9 : ∀ (n:Nat) (a:Pt) (T:Tr),zi T ≠ 3→zl n a T=[(a,n,T)]→T∈ts→(∀ x∈zl n a T,x∈Lt) → ∀ (pre:List (Pt × Nat × Tr)) (W:World),pre.length+(zl n a T).length≤NN→LSt E n₀ ps py pv sb l UA ts W→J pre W →
  Calls Tryz.prog 84 #[zO a.x a.y a.z ((n:Int)+2),(idT ts T:Int),.pointer (some ⟨ps,0,none⟩),.pointer (some ⟨py,0,none⟩),.pointer (some ⟨pv,0,none⟩)] W (LPost E n₀ J Jx pre (zl n a T) W):=by
  intro n a T hk hl hT hL pre W Oh H hj;rw [hl] at hL Oh ⊢;refine zH3 l 3 ps py pv sb a.x a.y a.z _ _ (zi T) W _ (fun e W' h=>by obtain ⟨b,hb,_⟩:=h;exact ⟨b,hb⟩) H.ks H.ky hk (fun W' hb=>zj _ sb UA ts T hT Od W' (H.st.la hb)) (fun W' hb=>?_)
  exact YieldAt.mono (hY 3 pre (a,n,T) W' (hL _ (by simp)) (hJ _ _ _ hj hb) (by simp at Oh;omega)) fun e W2 h=>LPost.of_yield (KpE.below hb) h
 induction n with
 | zero =>
   intro a hin T hT hD hL pre W hn H hj;cases hD with
   | uni _ c=>exact U9 0 a _ (by simp [zi]) (zm _ _ _) hT hL pre W hn H hj
   | brick l=>exact U9 0 a _ (by simp [zi]) (zHj _ _ _) hT hL pre W hn H hj
 | succ n ih =>
   intro a hin T hT hD hL pre W hn H hj;cases hD with
   | uni _ c=>exact U9 (n+1) a _ (by simp [zi]) (zm _ _ _) hT hL pre W hn H hj
   | node _ ch IL =>
     obtain ⟨b1,b2,b3⟩:=hin.bd hN;have OY:=hin.le;rw [←zHe n (n+3) a ch] at hL hn ⊢;rw [show (((n+1:Nat):Int)+2)=(n:Int)+3 by omega]
     refine zH4 n (by omega) a b1 b2 b3 E n₀ ps py pv sb l UA ts Od (n+3) ch hT J Jx hJ pre (zHd n a ch) (zHg n a ch) (zHi n a ch) (fun k=>if h:k<8 then zl n (Tr.cor a n k) (ch ⟨k,h⟩) else []) (fun k hk=>by rw [zHh n a ch hk,dif_pos hk]) W H hj ⟨fun k hk W' S4 hj'=>?_⟩
     have S8:=zHg n a ch (k+1) (by omega)
     rw [zHh n a ch hk] at S8;have Oi:=S8.length_le;rw [List.length_append] at Oi;have h:=ih (Tr.cor a n k) (hin.kid hk) (ch ⟨k,hk⟩) (hG.closed.2 _ ch hT _) (IL _) (fun x hx=>hL x (S8.subset (List.mem_append_right _ hx))) (pre++zHd n a ch k) W' (by rw [List.length_append];omega) S4 hj'
     rw [dif_pos hk];exact h
theorem zHc (E:Nat→Prop) (n₀ ps pd pi sb l n:Nat) (hn:n≤12) (UA:Int) (ts:List Tr) (hG:Good ts) (Od:ts.length≤4194304) (T:Tr) (hT:T∈ts) (IM:Dep n T) (J Jx:List (Pt × Nat × Tr)→World→Prop) (hJ:zAN J) (Ii:zAN Jx)
 (hY : ∀ m pre x W,x∈zl n ⟨0,0,0⟩ T→J pre W→pre.length<(zl n ⟨0,0,0⟩ T).length→YieldAt Fence.wide m Tryz.prog l (zHY ts x) W fun e W'=>(e = .returned (.bool true)∧J (pre++[x]) W'∧KpE E n₀ W W')∨(e = .returned (.bool false)∧Jx (pre++[x]) W'))
 (W:World) (ks:Bk W ps #[.pointer (some ⟨sb,0,none⟩)] 32) (kd:Bk W pd #[((n:Int)+2:Int)] 3) (ki:Bk W pi #[(idT ts T:Int)] 3) (hS:StoreIs W (fun k=>E k∨n₀≤k) sb UA ts) (hE : ¬E ps) (IR : ∀ k,E k→k<n₀) (Q3:n₀≤W.heap.size) (h0:J [] W) :
 Calls Tryz.prog 83 #[.func (.yield l) #[] #[],.pointer (some ⟨ps,0,none⟩),.pointer (some ⟨pd,0,none⟩),.pointer (some ⟨pi,0,none⟩)] W fun e W'=>(∃ v,e = .returned v)∧(J (zl n ⟨0,0,0⟩ T) W' ∨ ∃ q,q <+: zl n ⟨0,0,0⟩ T∧Jx q W'):=by
 have Sv:=Bx.mk fun W=>zOJ ((n:Int)+2) W;have Sh:=Bx.mk fun W' H hj=>zH5 E n₀ ps W.heap.size (W.heap.size+1) sb l n hn UA ts hG Od J Jx hJ _ (zl n ⟨0,0,0⟩ T) hY n ⟨0,0,0⟩ (InT.top n) T hT IM (fun x h=>h) [] W' (by simp) H hj
 simp only [List.nil_append] at Sh;have D2:=Bx.mk ks;have Cz:=Bx.mk kd;have D1:=Bx.mk ki;have HS:=Bx.mk hS;have H0:=Bx.mk h0;have HJ:=Bx.mk hJ;have HE:=Bx.mk hE;have Ae:=Bx.mk IR;have Hn:=Bx.mk Q3;generalize (idT ts T:Int)=iT at *;clear hG Od hn hT IM hS ks kd ki h0 hJ Ii hE IR Q3 hY;go_enter Tryz.func83,Tryz.ntmps83;go_upto_region 3 with fail;generalize hW2:(W.alloc _).alloc _=W2;have hB:=bl2 hW2;have ky:Bk W2 W.heap.size #[.func (.yield l) #[] #[]] 127:=bk1 hW2;have kv:Bk W2 (W.heap.size+1) #[zHl ps W.heap.size (W.heap.size+1)] 127:=bk0 hW2;clear hW2
 have HL:=Bx.mk (show LSt E n₀ ps W.heap.size (W.heap.size+1) sb l UA ts W2 from
  ⟨D2.o.la hB,ky,kv,HS.o.la hB,⟨HE.o,fun h=>by have:=Ae.o _ h;have:=Hn.o;omega,fun h=>by have:=Ae.o _ h;have:=Hn.o;omega⟩,Ae.o,nlt Hn.o hB.size⟩)
 have B0:=Bx.mk (HJ.o _ _ _ H0.o hB);have KV:=Bx.mk kv;have KD:=Bx.mk (Cz.o.la hB);have KI:=Bx.mk (D1.o.la hB);clear ky kv hB D2 Cz D1 HS H0 HE Ae Hn
 refine zAL 4 (fun i v w'=>match i with
  | 0=>v=zHl ps W.heap.size (W.heap.size+1)
  | 1=>v = .int .i64 ((n:Int)+2)
  | 2=>v=zO 0 0 0 ((n:Int)+2)
  | _=>v = .int .i64 (iT:Int)) (by kernel_rfl) (by kernel_rfl) 12 (by kernel_rfl) (by rfl) ?_ ?_ ?_
 · intro i hi v u1 u2 hb h
   match i,hi with
   | 0,_=>exact h
   | 1,_=>exact h
   | 2,_=>exact h
   | 3,_=>exact h
 · intro i o hi ho ρ w1 hb L3 L5 L6 hk
   match i,hi with
   | 0, _ =>
     obtain rfl:=osi ho;have g0:ρ (.tmp 5) = .pointer (some ⟨W.heap.size+1,0,none⟩):=hk 5 (by simp)
     have k1:=KV.o.la hb;have z0:=k1.cell 0 rfl;clear hk hb HL B0 HJ Sh Sv;go_simp;exact br
   | 1, _ =>
     obtain rfl:=osi ho;have g0:ρ (.tmp 2) = .pointer (some ⟨pd,0,none⟩):=hk 2 (by simp)
     have k1:=KD.o.la hb;have z0:=k1.cell 0 rfl;clear hk hb HL B0 HJ Sh Sv;go_simp;exact br
   | 2, _ =>
     obtain rfl:=osi ho;have g0:ρ (.tmp 8) = .int .i64 ((n:Int)+2):=hk 8 (by simp)
     have h4:=Sv.o w1;have H4:=Bx.mk h4;clear h4;clear hk hb HL B0 HJ Sh Sv;go_simp
     all_goals exact H4.o
   | 3, _ =>
     obtain rfl:=osi ho;have g0:ρ (.tmp 3) = .pointer (some ⟨pi,0,none⟩):=hk 3 (by simp)
     have k1:=KI.o.la hb;have z0:=k1.cell 0 rfl;clear hk hb HL B0 HJ Sh Sv;go_simp;exact br
 · intro vs W1 Od hb hR
   match vs,Od with
   | [v0, v1, v2, v3], _ =>
     have r0:v0=zHl ps W.heap.size (W.heap.size+1):=hR 0 v0 rfl;have r1:v1 = .int .i64 ((n:Int)+2):=hR 1 v1 rfl;have r2:v2=zO 0 0 0 ((n:Int)+2):=hR 2 v2 rfl;have r3:v3 = .int .i64 (iT:Int):=hR 3 v3 rfl;clear hR;subst r0 r1 r2 r3;have hq:=Bx.mk (Sh.o W1 (HL.o.kept (KpE.below hb)) (HJ.o _ _ _ B0.o hb));clear hb Sh HL B0 KV KD KI Sv HJ;simp only [zKg,List.take_succ_cons,List.take_zero,List.drop_succ_cons,List.drop_zero,List.map_cons,List.map_nil,List.zip_cons_cons,List.zip_nil_right,List.foldl_cons,List.foldl_nil];go_wp2_with fail;refine hq.o.mono ?_;rintro _ w5 ⟨b,rfl,QZ,Qb⟩
     have HP:Bx (J (zl n ⟨0,0,0⟩ T) w5 ∨ ∃ q,q <+: zl n ⟨0,0,0⟩ T∧Jx q w5):=⟨by
      cases b with
      | true=>exact .inl (QZ rfl).1
      | false=>exact .inr (Qb rfl)⟩
     clear QZ Qb hq;go_wp2_with fail
     go_end0
     exact ⟨⟨_,rfl⟩,HP.o⟩
theorem zHo (E:Nat→Prop) (n₀ ps pd pi sb n:Nat) (hn:n≤12) (UA:Int) (ts:List Tr) (hG:Good ts) (Od:ts.length≤4194304) (T:Tr) (hT:T∈ts) (IM:Dep n T) (m:Nat) (w:World) (ks:Bk w ps #[.pointer (some ⟨sb,0,none⟩)] 32) (kd:Bk w pd #[((n:Int)+2:Int)] 3) (ki:Bk w pi #[(idT ts T:Int)] 3) (hS:StoreIs w (fun k=>E k∨n₀≤k) sb UA ts) (hE : ¬E ps) (IR : ∀ k,E k→k<n₀) (Q3:n₀≤w.heap.size) :
 SeqStopsK Fence.wide m Tryz.prog 83 #[.pointer (some ⟨ps,0,none⟩),.pointer (some ⟨pd,0,none⟩),.pointer (some ⟨pi,0,none⟩)] (fun x:{ x // x∈zl n ⟨0,0,0⟩ T }=>zHY ts x.1) (KpE E n₀) (fun xs=>xs.map (·.1)=zl n ⟨0,0,0⟩ T) (fun xs=>xs.map (·.1) <+: zl n ⟨0,0,0⟩ T) (zl n ⟨0,0,0⟩ T).length w:=by
 intro l J Jx W hW hJ Ii hY h0;refine callsIn_wide.2 ?_;refine (zHc E n₀ ps pd pi sb l n hn UA ts hG Od T hT IM (fun s W' => ∃ ys:List { x // x∈zl n ⟨0,0,0⟩ T },ys.map (·.1)=s∧J ys W') (fun s W' => ∃ ys:List { x // x∈zl n ⟨0,0,0⟩ T },ys.map (·.1)=s∧Jx ys W') ?_ ?_ ?_ W (ks.la hW) (kd.la hW) (ki.la hW) (hS.la hW) hE IR (nlt Q3 hW.size) ⟨[],rfl,h0⟩).mono ?_
 · rintro s A B ⟨ys,hy,hj⟩ hb;exact ⟨ys,hy,hJ _ _ _ none hj (zV hb) (fun r e=>by cases e)⟩
 · rintro s A B ⟨ys,hy,hj⟩ hb;exact ⟨ys,hy,Ii _ _ _ none hj (zV hb) (fun r e=>by cases e)⟩
 · rintro m' pre x W1 hx ⟨ys,rfl,hj⟩ hl;rw [List.length_map] at hl;refine YieldAt.mono (YieldAt.anyDepth' m' (hY ys ⟨x,hx⟩ W1 hj hl)) ?_;rintro e W' (⟨rfl,h1,h2⟩ | ⟨rfl,h1⟩)
   · exact .inl ⟨rfl,⟨_,by simp,h1⟩,h2⟩
   · exact .inr ⟨rfl,⟨_,by simp,h1⟩⟩
 · rintro e W' ⟨hv,⟨ys,hy,hj⟩ | ⟨q,hq,ys,rfl,hj⟩⟩
   · exact ⟨hv,.inl ⟨ys,hy,hj⟩⟩
   · exact ⟨hv,.inr ⟨ys,hq,hj⟩⟩
theorem zNS (sb:Nat) (i d:Int) (w:World) :
 Calls Tryz.prog 25 #[.pointer (some ⟨sb,0,none⟩),i,d] w fun e w'=>e = .returned (.func (.func 83) #[] #[.pointer (some ⟨w.heap.size,0,none⟩),.pointer (some ⟨w.heap.size+1+1,0,none⟩),.pointer (some ⟨w.heap.size+1,0,none⟩)])∧w'=((w.alloc (.cells #[.pointer (some ⟨sb,0,none⟩)] 32)).alloc (.cells #[i] 3)).alloc (.cells #[d] 3):=by
 go_enter Tryz.func25,Tryz.ntmps25;go_wp2_with fail;go_ret;exact ⟨rfl,rfl⟩
theorem KpE.putObj {E:Nat→Prop} {n₀:Nat} (W:World) (l:Nat) (o o':Obj) (hl:n₀≤l) (h:W.heap[l]? = some o) (hc:o.isCells=false):KpE E n₀ W (W.putObj l o'):=by
 have hg:=grownBy_putObj' W l o';refine ⟨hg.os,hg.tape,hg.output,hg.size,fun k x hk _ hx=>(hg.block k (Array.getElem?_eq_some_iff.1 hk).1 (fun e=>?_)).trans hk⟩;obtain rfl:=osi e;rw [h] at hk;obtain rfl:=osi hk;rcases hx with hx | hx
 · omega
 · rw [hc] at hx;cases hx
theorem KpE.grow {E:Nat→Prop} {n₀:Nat} {W W':World} {g:Nat} (hg:W.grownBy W' (some g)) (hE:E g):KpE E n₀ W W' :=
 ⟨hg.os,hg.tape,hg.output,hg.size,fun k o hk Ph _=>(hg.block k (Array.getElem?_eq_some_iff.1 hk).1 (fun e=>Ph (osi e ▸ hE))).trans hk⟩
theorem zGz {B:Nat} {W W':World} (h:Below W.heap.size W W'):KeepsFrom B W W':=⟨h.size,fun k o _ hk _=>(h.block k (Array.getElem?_eq_some_iff.1 hk).1).trans hk⟩
structure Rnd (E:Nat→Prop) (n₀:Nat) (W W':World):Prop where
 kf:KeepsFrom n₀ W W'
 kp:KpE E n₀ W W'
theorem Rnd.below {E:Nat→Prop} {n₀:Nat} {W W':World} (h:Below W.heap.size W W'):Rnd E n₀ W W':=⟨zGz h,KpE.below h⟩
theorem Rnd.trans {E:Nat→Prop} {n₀:Nat} {A B C:World} (h:Rnd E n₀ A B) (h':Rnd E n₀ B C):Rnd E n₀ A C:=⟨h.kf.trans h'.kf,h.kp.trans h'.kp⟩
theorem Rnd.set {E:Nat→Prop} {n₀:Nat} (W:World) (g:Nat) (v:Value) (hE:E g):Rnd E n₀ W (W.setCell ⟨g,0,none⟩ v) :=
 ⟨(KeepsOthers.setCell _ _ _).from _,KpE.grow (zX W ⟨g,0,none⟩ v) hE⟩
theorem zJa {β:Type} {E:Nat→Prop} {w₀:World}:OwnFrom w₀.heap.size (fun (_:β) W=>KpE E w₀.heap.size w₀ W):=fun _ X Y row hs hg hr =>
 ⟨hg.os.trans hs.os,hg.tape.trans hs.tape,hg.output.trans hs.output,nlt hs.size hg.size,fun k o hk hE hc=>by
  have hX:=hs.blk k o hk hE hc;refine (hg.block k (Array.getElem?_eq_some_iff.1 hX).1 (fun e=>?_)).trans hX;have h1:=(hr k e.symm).1;have h2:=(Array.getElem?_eq_some_iff.1 hk).1;omega⟩
theorem zJZ {β:Type} {B:Nat} (g:Nat) (f:β→Array Value) (t:TypeId):OwnFrom B (fun s W=>Bk W g (f s) t):=fun s X Y row hs hg hr =>
 (hg.block g (Array.getElem?_eq_some_iff.1 hs).1 (fun e=>by
  obtain ⟨_,o,ho,hc⟩:=hr g e.symm;rw [show X.heap[g]? = _ from hs] at ho;obtain rfl:=osi ho;cases hc)).trans hs
def zC7 (c:Int) (pre:List (Pt × Nat × Tr)):Int:=wrap64 (((pre.map (zC6 c)).sum:Nat):Int)
theorem zOn (a b:Int):wrap64 (wrap64 a+b)=wrap64 (a+b):=by
 simp only [wrap64,IntKind.wrap];omega
theorem zHa (ts:List Tr) (hG:Good ts) (N:Nat) : ∀ (n:Nat) (a:Pt) (T:Tr),InT N n a→Dep n T→T∈ts → ∀ x∈zl n a T,x.2.2∈ts∧InT N x.2.1 x.1∧((∃ c,x.2.2 = .uni c)∨(x.2.1=0 ∧ ∃ l,x.2.2 = .brick l)):=by
 intro n
 induction n with
 | zero =>
   intro a T hin hD hT x hx;cases hD with
   | uni _ c=>rw [zm,List.mem_singleton] at hx;subst hx;exact ⟨hT,hin,.inl ⟨c,rfl⟩⟩
   | brick l=>rw [zHj,List.mem_singleton] at hx;subst hx;exact ⟨hT,hin,.inr ⟨rfl,l,rfl⟩⟩
 | succ n ih =>
   intro a T hin hD hT x hx;cases hD with
   | uni _ c=>rw [zm,List.mem_singleton] at hx;subst hx;exact ⟨hT,hin,.inl ⟨c,rfl⟩⟩
   | node _ ch h =>
     unfold zl at hx;obtain ⟨i,-,hi⟩:=List.mem_flatMap.1 hx;exact ih _ (ch i) (hin.kid i.isLt) (h i) (hG.closed.2 _ ch hT i) x hi
theorem zC8 (c:Int) (pre:List (Pt × Nat × Tr)) (x:Pt × Nat × Tr):zC7 c (pre++[x])=wrap64 ((((pre.map (zC6 c)).sum:Nat):Int)+((zC6 c x:Nat):Int)):=by
 unfold zC7;rw [List.map_append,List.sum_append];simp
structure CSt (E:Nat→Prop) (n₀ nb B:Nat) (c S e:Int) (ys:List Int) (v:Value) (W:World) (j:Nat) (wr:World):Prop where
 rnd:Rnd E n₀ W wr
 kn:Bk wr nb #[(wrap64 (S+(((ys.take j).count c:Nat):Int) * e):Int)] 3
 own:Own wr B 3 .i64 v ys
theorem CSt.skip {E:Nat→Prop} {n₀ nb B:Nat} {c S e:Int} {ys:List Int} {v:Value} {W:World} {j:Nat} {wr:World} (h:CSt E n₀ nb B c S e ys v W j wr) {x:Int} (hx:ys[j]? = some x) (hc:x ≠ c):CSt E n₀ nb B c S e ys v W (j+1) wr:=by
 refine ⟨h.rnd,?_,h.own⟩;have hj:=(List.getElem?_eq_some_iff.1 hx);rw [List.take_succ_eq_append_getElem hj.1,hj.2,List.count_append,List.count_singleton];simpa [hc] using h.kn
theorem CSt.hit {E:Nat→Prop} {n₀ nb B:Nat} {c S e:Int} {ys:List Int} {v:Value} {W:World} {j:Nat} {wr:World} (h:CSt E n₀ nb B c S e ys v W j wr) {e1:Int} (MN:e1=e) (hE:E nb) (Pe:nb<B) (hx:ys[j]? = some c):CSt E n₀ nb B c S e ys v W (j+1) (wr.setCell ⟨nb,0,none⟩ (.int .i64 (wrap64 (wrap64 (S+(((ys.take j).count c:Nat):Int) * e)+e1)))):=by
 rw [MN];clear MN
 refine ⟨h.rnd.trans (Rnd.set _ _ _ hE),?_,h.own.grown (zX wr ⟨nb,0,none⟩ _) (by
  cases hv:v.ownBlock with
  | none=>exact .inl rfl
  | some g=>exact .inr (fun e'=>by have h1:=(h.own.lt g hv).1;have e2:g=nb:=osi e';omega))⟩
 have hj:=(List.getElem?_eq_some_iff.1 hx);rw [List.take_succ_eq_append_getElem hj.1,hj.2,List.count_append,List.count_singleton];simp only [beq_self_eq_true,if_true];rw [zOn,show S+(((ys.take j).count c+1:Nat):Int) * e=S+(((ys.take j).count c:Nat):Int) * e+e by rw [Int.natCast_add,Int.add_mul];simp;omega]
 exact Bk.put1 h.kn _
theorem zJc {w:World} {B:Nat} {e:TypeId} {k:IntKind} {b off n cap:Nat} {xs:List Int} (h:Own w B e k (.slice (some ⟨b,off,none⟩) n cap) xs) {j:Nat} {x:Int} (hx:xs[j]? = some x):w.cell? ⟨b,off+j,none⟩=some (.int k x):=by
 obtain ⟨b',off',he,hc⟩:=h.sl j x hx;injection he with he;injection he with h1 h2;subst h1;subst h2;exact hc
end
section
open Go.Sort Go.RowKit
theorem zN4 {P:Program} {o:Oper} {a:Act} {next:Act→World→Prop} {Q:Exit→Act→World→Prop} (l n:Nat) {r:Result Next} (h:o.upon P a next Q r):o.uponIn (Fence.wide.inRound l) n P a next Q r:=by
 cases r with
 | ok x w' =>
   cases x with
   | value v=>exact h
   | skip=>exact h
   | defer d=>exact h
   | enter f args=>exact ⟨fun e=>(by cases e),(callsIn_wide.2 h).inRound l⟩
   | row row args=>exact ⟨fun e=>(by cases e),fun c cs _=>by
    obtain ⟨v,w2,r,s⟩:=h c cs;exact ⟨v,w2,r,stepsIn_wide.2 s⟩⟩
   | round l f tmps assign body=>exact h.elim
   | _=>exact h.elim
 | halt x w' =>
   cases x with
   | panic v=>exact h
   | _=>exact h.elim
section
variable {P:Program} {Q:Exit→Act→World→Prop}
theorem zOe (l n:Nat) {ops:Array Oper} (Pg : ∀ (i:Nat) (o:Oper) (c:Call),ops[i]? = some o→o.op ≠ .defer c) (Iu : ¬LetsOut Q) {i:Nat} {K:Act→World→Prop} {a:Act} {w:World} (h:wpOp P ops Q i K a w):wpOpIn (Fence.wide.inRound l) n P ops Q i K a w:=by
 unfold wpOp at h;unfold wpOpIn;split
 · rename_i ho;simpa only [ho] using h
 · rename_i o ho;simp only [ho] at h;split
   · rename_i hw;rw [if_pos hw] at h;rcases h with h | h
     · refine ⟨fun f _=>trivial,?_⟩;rw [Fence.inRound_round,Oper.semAt_some l _ _ (fun c=>Pg i o c ho)];exact zN4 l n h
     · exact absurd h.2 Iu
   · rename_i hw;rw [if_neg hw] at h;exact ⟨fun f _=>trivial,h⟩
theorem zOO (l n:Nat) {ops:Array Oper} {md:Region.Mode} (Pg : ∀ (i:Nat) (o:Oper) (c:Call),ops[i]? = some o→o.op ≠ .defer c) (Iu : ¬LetsOut Q) : ∀ (fuel:Nat) (listed:Array Bool) (a:Act) (w:World),wpAny P md ops Q fuel listed a w→wpAnyIn (Fence.wide.inRound l) n P md ops Q fuel listed a w
 | 0,_,_,_,h=>h
 | fuel+1,listed,a,w,h=>⟨h.1,fun i hi=>wpOpIn_mono (fun a' w' h'=>zOO l n Pg Iu fuel _ a' w' h') (zOe l n Pg Iu (h.2 i hi))⟩
def zIn (l:List Oper):Bool:=l.all fun o=>match o.op with | .defer _=>false | _=>true
theorem zIo {l:List Oper} (h:zIn l=true) (i:Nat) (o:Oper) (c:Call) (ho:l.toArray[i]? = some o):o.op ≠ .defer c:=by
 intro e;have hm:o∈l:=List.mem_of_getElem? (by simpa using ho)
 have:=List.all_eq_true.1 h o hm;rw [e] at this;cases this
theorem zOV {l:List Oper} {W:World} {a:Act} {id:Nat} (lo k:Nat) (n:Nat) (R:Nat→Value→World→Prop) (hm:P.follows .mixedOrders=true) (hB:zGH l n=true) (Pg:zIn l=true) (Iu : ¬LetsOut Q) (m:Nat) (MI:zEY l m=true) (Jf:a.tmps.size=m)
 (hf : ∀ i,i<n→zAO (R i))
 (QL : ∀ i o,i<n→l[i]? = some o → ∀ (ρ:Operand→Value) w,Below W.heap.size W w→(∀ v,ρ (.const v)=v)→(∀ g,ρ (.global g) = .pointer (some ⟨g,0,none⟩))→(∀ f,ρ (.func f) = .func (.func f) #[] #[]) →
  (∀ d,.tmp d∈o.op.operands→zAS l n R a d (ρ (.tmp d)) w)→zLT P w (R i) ((execOp ρ o).run P w))
 (h : ∀ (vs:List Value) w',vs.length=n→Below W.heap.size W w'→(∀ i v,vs[i]? = some v→R i v w')→wpList P l.toArray Q (l.drop n) (zKg (((l.take n).map (·.dst)).zip vs) a) w'):(Code.region id l.toArray true).wpIn (Fence.wide.inRound lo) k P Q a W :=
 wpIn_region_any hm (zOO lo k (zIo Pg) Iu _ _ _ _ (zBH n R hB m MI Jf hf QL h))
end
end
section
open Go.RowKit Go.Sort Go.Maps
open Oct
theorem zBL {p:Int→Bool} {xs:List Int} {k:Nat} {x:Int} (hx:xs[k]? = some x) (h:p x=true):xs.any p=true:=List.any_eq_true.2 ⟨x,List.mem_of_getElem? hx,h⟩
theorem zBK {p:Int→Bool} {xs:List Int} {k:Nat} {x:Int} (hx:xs[k]? = some x) (Jd:(xs.take k).any p=false) (h:p x=false):(xs.take (k+1)).any p=false:=by
 have hj:=List.getElem?_eq_some_iff.1 hx;rw [List.take_succ_eq_append_getElem hj.1,hj.2,List.any_append,Jd];simp [h]
theorem zBF {p:Int→Bool} {xs:List Int} {n:Nat} (hn:Bx (xs.length=n)) (h:(xs.take n).any p=false):xs.any p=false:=by
 rwa [List.take_of_length_le (by have:=hn.o;omega)] at h
theorem zGP (q:Int) (a:Option Addr) (cap:Nat) (xs:List Int) (w:World) (hl:xs.length≤1000000000) (h:Sl w .i64 a xs) :
 Calls Tryz.prog 138 #[.slice a xs.length cap,q] w fun e w'=>(∃ r:Int,e = .returned r∧(decide (0≤r)=xs.any (q == ·)))∧w=w':=by
 generalize hn:xs.length=n at hl;have Hn:=Bx.mk hn;clear hn;go_enter Tryz.func138,Tryz.ntmps138;go_wp2
 go_loop [8] (fun i => ∃ k:Nat,k≤n∧i = .int .i64 k∧(xs.take k).any (q == ·)=false) (fun i=>n - (intOf i).toNat)
 case atStart=>exact ⟨0,Nat.zero_le _,rfl,by simp⟩
 case round =>
  obtain ⟨k,hk,rfl,Jd⟩:=hrel;have CQ:=Bx.mk Jd;clear Jd;by_cases hlt:k<n
  · obtain ⟨x,hx⟩:=zBY Hn hlt;obtain ⟨b,off,rfl,hc⟩:=h k x hx;have Hx:=Bx.mk hx;clear h hx;cases Ly:(q == ·) x with
    | true =>
      have hf:=Bx.mk (zBL (p:=(q == ·)) Hx.o Ly);have t1:(q == x)=true:=Ly;go_wp2_with fail;go_ret;exact ⟨⟨_,rfl,by rw [hf.o];simp⟩,rfl⟩
    | false =>
      have hf:=Bx.mk (zBK (p:=(q == ·)) Hx.o CQ.o Ly);have t1:(q == x)=false:=Ly;go_wp2_with fail;go_round
      case rel=>exact ⟨k+1,by omega,by go_num,hf.o⟩
      case measure=>simp [intOf];omega
  · have OP:k=n:=by omega
    have hf:=Bx.mk (zBF (p:=(q == ·)) Hn (OP ▸ CQ.o));clear OP;go_wp2;go_ret;exact ⟨⟨_,rfl,by rw [hf.o];simp⟩,rfl⟩
theorem zDI (q:Int) (a:Option Addr) (cap:Nat) (xs:List Int) (w:World) (hl:xs.length≤1000000000) (h:Sl w .i64 a xs) :
 Calls Tryz.prog 78 #[.slice a xs.length cap,q] w fun e w'=>e = .returned (.bool (xs.any (q == ·)))∧w=w':=by
 go_enter Tryz.func78,Tryz.ntmps78;go_wp2_with (go_at_call 138;refine (zGP q a cap xs _ hl h).mono ?_;rintro e w' ⟨⟨r,rfl,hr⟩,rfl⟩;have Hr:=Bx.mk hr;clear hr);go_ret;exact ⟨zx Hr.o,rfl⟩
theorem zF6 (pc:Nat) (a:Option Addr) (cap:Nat) (cs:List Int) (x:Int) (w:World) (hl:cs.length≤1000000000) (h:Sl w .i64 a cs) (kc:Bk w pc #[.slice a cs.length cap] 26) :
 Calls Tryz.prog 77 #[x,.pointer (some ⟨pc,0,none⟩)] w fun e w'=>e = .returned (.bool (cs.any (x == ·)))∧w=w':=by
 have c0:=kc.cell 0 rfl;have H:=Bx.mk (zDI x a cap cs w hl h);clear kc hl h;generalize cs.length=n at *;go_enter Tryz.func77,Tryz.ntmps77;go_wp2_with ((with_reducible refine H.o.mono ?_);rintro _ _ ⟨rfl,rfl⟩);go_ret;exact ⟨rfl,rfl⟩
theorem zGR (pc:Nat) (p:Int→Bool) (a:Option Addr) (cap:Nat) (xs:List Int) (w:World) (hl:xs.length≤1000000000) (h:Sl w .i64 a xs) (LZ : ∀ x:Int,Calls Tryz.prog 77 #[x,.pointer (some ⟨pc,0,none⟩)] w fun e w'=>e = .returned (.bool (p x))∧w=w') :
 Calls Tryz.prog 137 #[.slice a xs.length cap,.func (.func 77) #[] #[.pointer (some ⟨pc,0,none⟩)]] w fun e w'=>(∃ r:Int,e = .returned r∧(decide (0≤r)=xs.any p))∧w=w':=by
 generalize hn:xs.length=n at hl;have Hn:=Bx.mk hn;clear hn;have Cd:=Bx.mk LZ;clear LZ;go_enter Tryz.func137,Tryz.ntmps137;go_wp2
 go_loop [8] (fun i => ∃ k:Nat,k≤n∧i = .int .i64 k∧(xs.take k).any p=false) (fun i=>n - (intOf i).toNat)
 case atStart=>exact ⟨0,Nat.zero_le _,rfl,by simp⟩
 case round =>
  obtain ⟨k,hk,rfl,Jd⟩:=hrel;have CQ:=Bx.mk Jd;clear Jd;by_cases hlt:k<n
  · obtain ⟨x,hx⟩:=zBY Hn hlt;obtain ⟨b,off,rfl,hc⟩:=h k x hx;have Hx:=Bx.mk hx;clear h hx;cases Ly:p x with
    | true =>
      have hf:=Bx.mk (zBL (p:=p) Hx.o Ly);have Ce:=Bx.mk (Cd.o x);rw [Ly] at Ce;go_wp2_with ((with_reducible refine Ce.o.mono ?_);rintro _ _ ⟨rfl,rfl⟩);go_ret;exact ⟨⟨_,rfl,by rw [hf.o];simp⟩,rfl⟩
    | false =>
      have hf:=Bx.mk (zBK (p:=p) Hx.o CQ.o Ly);have Ce:=Bx.mk (Cd.o x);rw [Ly] at Ce;go_wp2_with ((with_reducible refine Ce.o.mono ?_);rintro _ _ ⟨rfl,rfl⟩);go_round
      case rel=>exact ⟨k+1,by omega,by go_num,hf.o⟩
      case measure=>simp [intOf];omega
  · have OP:k=n:=by omega
    have hf:=Bx.mk (zBF (p:=p) Hn (OP ▸ CQ.o));clear OP;go_wp2;go_ret;exact ⟨⟨_,rfl,by rw [hf.o];simp⟩,rfl⟩
theorem zDK (pc:Nat) (p:Int→Bool) (a:Option Addr) (cap:Nat) (xs:List Int) (w:World) (hl:xs.length≤1000000000) (h:Sl w .i64 a xs) (LZ : ∀ x:Int,Calls Tryz.prog 77 #[x,.pointer (some ⟨pc,0,none⟩)] w fun e w'=>e = .returned (.bool (p x))∧w=w') :
 Calls Tryz.prog 76 #[.slice a xs.length cap,.func (.func 77) #[] #[.pointer (some ⟨pc,0,none⟩)]] w fun e w'=>e = .returned (.bool (xs.any p))∧w=w':=by
 have H:=Bx.mk (zGR pc p a cap xs w hl h LZ);clear hl h LZ;go_enter Tryz.func76,Tryz.ntmps76;go_wp2_with (go_at_call 137;refine H.o.mono ?_;rintro e w' ⟨⟨r,rfl,hr⟩,rfl⟩;have Hr:=Bx.mk hr;clear hr);go_ret;exact ⟨zx Hr.o,rfl⟩
theorem zJb {w:World} {B:Nat} {e:TypeId} {k:IntKind} {a:Option Addr} {n c:Nat} {xs:List Int} (h:Own w B e k (.slice a n c) xs):xs.length≤c:=by
 rcases h.2 with ⟨e1,hn⟩ | ⟨g,cap,cur,e1,hb,hg,hnc,Ld,Lr,ht⟩
 · omega
 · injection e1 with h1 h2 h3;omega
theorem zJd {w:World} {B:Nat} {e t:TypeId} {k:IntKind} {v:Value} {xs:List Int} {g:Nat} {cs:Array Value} (h:Own w B e k v xs) (hb:Bk w g cs t) (Ph:e ≠ t):v.ownBlock ≠ some g:=by
 rcases h.2 with ⟨rfl,hn⟩ | ⟨g2,cap,cur,rfl,Js,hg,hnc,Ld,Lr,ht⟩
 · simp [Value.ownBlock]
 · intro h1;have h2:g2=g:=by simpa [Value.ownBlock] using h1
   subst h2;have h3:=hg.symm.trans hb;injection h3 with h3;injection h3 with _ h4;exact Ph h4
theorem zId {x y z:Int} (hx:0≤x∧x≤4) (hy:0≤y∧y≤4) (hz:0≤z∧z≤4):x * y * z≤64:=by
 have h1:x * y≤4 * 4:=Int.mul_le_mul hx.2 hy.2 hy.1 (by decide)
 have h2:x * y * z≤4 * 4 * 4:=Int.mul_le_mul h1 hz.2 hz.1 (by decide)
 omega
theorem zDi {a:Pt} {b:Box} (h1:0≤a.x∧a.x≤16384) (h2:0≤a.y∧a.y≤16384) (h3:0≤a.z∧a.z≤16384) (hE:zS (zn (cb a 2) b)=false):zIj (zn (cb a 2) b) 0=0∧1≤zAE (zn (cb a 2) b)∧zAE (zn (cb a 2) b)≤64:=by
 have hv:=zBW hE;have hj:=zIQ hE;have hm:=zT.1 hE;have hs:=zAA hE
 have Sn:zAE (zn (cb a 2) b)≤64:=by
  unfold zAE;rw [hs];rw [hj] at hm ⊢;simp only [zGx,cb,Pt.sub] at hm ⊢;refine zId ?_ ?_ ?_ <;> omega
 refine ⟨?_,hv,Sn⟩;unfold zIj;rw [if_neg,if_neg (by omega)]
 rw [hj] at hm ⊢;simp only [zGx,cb] at hm ⊢;simp only [okB,okP,okC,Pal.cell,Bool.and_eq_false_iff,decide_eq_false_iff_not,Bool.and_eq_true,decide_eq_true_eq];omega
end
section
open Go.RowKit Go.Sort Go.Maps
open Oct
attribute [local go_sem] Oper.semAt_some
theorem zNK (UA:Int) (ts:List Tr) (hG:Good ts) (Od:ts.length≤4194304) (sb n:Nat) (hn:n≤12) (T:Tr) (hT:T∈ts) (IM:Dep n T) (c:Int) (w:World) (Far:Nat→Prop) (hS:StoreIs w Far sb UA ts) :
 Calls Tryz.prog 23 #[.pointer (some ⟨sb,0,none⟩),(idT ts T:Int),((n:Int)+2:Int),c] w fun e w'=>e = .returned (.int .i64 (zC7 c (zl n ⟨0,0,0⟩ T)))∧Below w.heap.size w w':=by
 refine (callsIn_wide (n:=5)).1 ?_;refine callsIn_of_wp_marks Tryz.func23 rfl trivial ?_ rfl;simp only [Tryz.ntmps23,List.size_toArray,List.length_cons,List.length_nil,Nat.reduceAdd,Nat.reduceSub,Array.replicate_succ,Array.replicate_zero,List.push_toArray,List.append_toArray,List.nil_append,List.cons_append]
 gi_wp2_with ((try refine ⟨trivial,?_⟩);gi_at_call 25;refine (callsIn_wide.2 (zNS _ _ _ _)).mono ?_;rintro _ _ ⟨rfl,rfl⟩)
 generalize hW0:World.alloc (World.alloc (World.alloc (World.alloc (World.alloc _ _) _) _) _) _=W0;have I0:Below w.heap.size w W0:=by rw [←hW0];exact ((((bf.alloc (by simp) _).alloc (by simp;omega) _).alloc (by simp;omega) _).alloc (by simp;omega) _).alloc (by simp;omega) _
 have S9:W0.heap.size=w.heap.size+6:=by rw [←hW0];simp
 have ks:Bk W0 w.heap.size #[.pointer (some ⟨sb,0,none⟩)] 32:=by rw [←hW0];exact zD (zD (zD (zD (zD (zC _ _ _ (by simp))))))
 have kc:Bk W0 (w.heap.size+1) #[c] 3:=by rw [←hW0];exact zD (zD (zD (zD (zC _ _ _ (by simp)))))
 have kn:Bk W0 (w.heap.size+1+1) #[(0:Int)] 3:=by rw [←hW0];exact zD (zD (zD (zC _ _ _ (by simp))))
 have U6:Bk W0 (w.heap.size+1+1+1) #[.pointer (some ⟨sb,0,none⟩)] 32:=bk2 hW0;have ki:Bk W0 (w.heap.size+1+1+1+1) #[(idT ts T:Int)] 3:=bk1 hW0;have kd:Bk W0 (w.heap.size+1+1+1+1+1) #[((n:Int)+2:Int)] 3:=bk0 hW0;clear hW0;have J2:StoreIs W0 (fun k=>k=w.heap.size+1+1∨W0.heap.size≤k) sb UA ts:=(((hS.less (Far:=fun _=>False) (fun k h=>h.elim)).widen (Far':=fun k=>w.heap.size≤k) (fun k hk=>.inr hk)).la I0).less (fun k hk=>by rcases hk with rfl | hk <;> omega)
 have Oo:=zHa ts hG n n ⟨0,0,0⟩ T (InT.top n) IM hT;have Rh:=zHo (fun k=>k=w.heap.size+1+1) W0.heap.size (w.heap.size+1+1+1) (w.heap.size+1+1+1+1+1) (w.heap.size+1+1+1+1) sb n hn UA ts hG Od T hT IM (5 - 1) W0 U6 kd ki J2 (by omega) (by omega) nlr
 have Io:=Bx.mk fun t ht W (h:StoreIs W (fun k=>k=w.heap.size+1+1∨W0.heap.size≤k) sb UA ts)=>zj _ sb UA ts t ht Od W h;have IJ:=Bx.mk fun t ht W (h:StoreIs W (fun k=>k=w.heap.size+1+1∨W0.heap.size≤k) sb UA ts)=>zCc W _ sb UA ts t ht hG (by omega) h
 have ND:=Bx.mk hG.bytes;clear hT IM Od hG hS U6 kd ki;have Ct:=Bx.mk hn;have Bq:=Bx.mk J2;have D6:=Bx.mk Oo;have A2:=Bx.mk I0;clear hn J2 Oo I0;have kn0:Bk W0 (w.heap.size+1+1) #[(zC7 c []:Int)] 3:=by rw [show zC7 c []=0 from by simp [zC7,wrap64]];exact kn
 refine wpIn_rangeFunc_ownH rfl (by decide) (gf:=83) (lb:=#[.pointer (some ⟨w.heap.size+1+1+1,0,none⟩),.pointer (some ⟨w.heap.size+1+1+1+1+1,0,none⟩),.pointer (some ⟨w.heap.size+1+1+1+1,0,none⟩)]) rfl trivial (enters_of Tryz.func83 (by kernel_rfl) rfl)
  Rh KpE.trans (fun W l o o' hl h hc _=>KpE.putObj W l o o' hl h hc) br (fun _=>rfl)
  (fun (pre:List { x // x∈zl n ⟨0,0,0⟩ T }) W=>Bk W (w.heap.size+1+1) #[(zC7 c (pre.map (·.1)):Int)] 3∧KpE (fun k=>k=w.heap.size+1+1) W0.heap.size W0 W)
  (fun _ _ _=>False)
  (OwnFrom.and (zJZ _ (fun (pre:List { x // x∈zl n ⟨0,0,0⟩ T })=>#[(zC7 c (pre.map (·.1)):Int)]) _) zJa)
  (fun _ _ _ _ _ hs _ _=>hs)
  ⟨kn0,KpE.refl _ _ _⟩
  (fun x a' W => ∃ xb,W0.heap.size≤xb∧Bk W xb #[.int .i64 x.1.1.x,.int .i64 x.1.1.y,.int .i64 x.1.1.z,.int .i64 ((x.1.2.1:Int)+2)] 39∧a'={ tmps:=#[.pointer (some ⟨sb,0,none⟩),.int .i64 (idT ts T:Int),.int .i64 ((n:Int)+2),.int .i64 c,.pointer (some ⟨w.heap.size,0,none⟩),undef,undef,.pointer (some ⟨w.heap.size+1,0,none⟩),.int .i64 0,.pointer (some ⟨w.heap.size+1+1,0,none⟩),.pointer (some ⟨xb,0,none⟩),.int .i64 (idT ts x.1.2.2:Int),undef,undef,undef,.pointer (some ⟨sb,0,none⟩),.int .i64 (idT ts T:Int),.int .i64 ((n:Int)+2),.func (.func 83) #[] #[.pointer (some ⟨w.heap.size+1+1+1,0,none⟩),.pointer (some ⟨w.heap.size+1+1+1+1+1,0,none⟩),.pointer (some ⟨w.heap.size+1+1+1+1,0,none⟩)],zO x.1.1.x x.1.1.y x.1.1.z ((x.1.2.1:Int)+2),.int .i64 (idT ts x.1.2.2:Int),undef,undef,undef,undef,undef,undef,undef,undef,undef,undef,undef,undef,undef,undef,undef,undef,undef,undef,undef,undef,undef,undef,undef,undef],defers:=[] })
  (fun x a'=>fun _ X Y row hs hg hr=>by obtain ⟨xb,h1,h2,h3⟩:=hs;exact ⟨xb,h1,zJZ xb (fun (_:Unit)=>#[.int .i64 x.1.1.x,.int .i64 x.1.1.y,.int .i64 x.1.1.z,((x.1.2.1:Int)+2:Int)]) _ () X Y row h2 hg hr,h3⟩)
  ?assign ?body ?done ?stop
 case assign =>
  rintro l pre x W K ⟨Tu,O5⟩ hK;have K8:Below W.heap.size W (W.alloc (.cells #[.int .i64 x.1.1.x,.int .i64 x.1.1.y,.int .i64 x.1.1.z,((x.1.2.1:Int)+2:Int)] 39)):=bf;have HK:=hK _ _ (zGz K8) (KpE.below K8) ⟨Tu.la K8,O5.trans (KpE.below K8)⟩ ⟨W.heap.size,O5.size,zC _ _ _ (by simp),rfl⟩
  replace HK:=Bx.mk HK;clear hK
  gi_wp2
  exact HK.o
 case body =>
  rintro l pre ⟨⟨a,lv,t⟩,hx⟩ a' W hl hr ⟨Tu,O5⟩ ⟨xb,TC,kx,rfl⟩ hlt;obtain ⟨ht,hin,SF⟩:=D6.o _ hx;simp only [] at ht hin SF kx ⊢;have OY:=hin.le;have Pa:=Ct.o;have By:=Bx.mk (O5.store Bq.o);have B7:=Bx.mk (Io.o t ht W By.o);have AY:=Bx.mk (IJ.o t ht W By.o);have s0:=(O5.bk ks (show ¬(w.heap.size=w.heap.size+1+1) by omega)).cell 0 rfl
  have Th:=Bx.mk (O5.bk kc (show ¬(w.heap.size+1=w.heap.size+1+1) by omega))
  have B1:=Bx.mk O5;have HX:=Bx.mk kx;have B5:=Bx.mk Tu;have D9:=hl;have Df:Bx (zC7 c ((pre++[(⟨(a,lv,t),hx⟩:{ x // x∈zl n ⟨0,0,0⟩ T })]).map (·.1))=wrap64 (((((pre.map (·.1)).map (zC6 c)).sum:Nat):Int)+((zC6 c (a,lv,t):Nat):Int))):=⟨by rw [List.map_append];exact zC8 c _ _⟩
  generalize hP:pre++[(⟨(a,lv,t),hx⟩:{ x // x∈zl n ⟨0,0,0⟩ T })]=P at *;generalize hSS:((((pre.map (·.1)).map (zC6 c)).sum:Nat):Int)=SS at *;have Cu:Bx (zC7 c (pre.map (·.1))=wrap64 SS):=⟨by unfold zC7;rw [hSS]⟩
  have hkd1:0≤3 * ((lv:Int)+2):=by omega
  have hkd2:3 * ((lv:Int)+2)≤64:=by omega
  have Kp:=ND.o t ht;have hxsz:xb<W.heap.size:=kx.lt;clear Io IJ hSS hP hx ht;rcases SF with ⟨d,rfl⟩ | ⟨rfl,ys,rfl⟩
  · have t0:(zi (Tr.uni d) == 1)=true:=rfl;have Ss:IntKind.i64.wrap (3 * ((lv:Int)+2))=3 * ((lv:Int)+2):=wj _ (by omega)
    have Qd:(8:Nat) ^ (lv+2)≤4398046511104:=nlt (Nat.pow_le_pow_right (by decide) (show lv+2≤14 by omega)) (by decide)
    have he:(1:Int) * 2 ^ (3 * ((lv:Int)+2)).toNat=((8 ^ (lv+2):Nat):Int):=by
     have h8:(8:Nat) ^ (lv+2)=2 ^ (3 * (lv+2)):=by rw [Nat.pow_mul]
     rw [show (3 * ((lv:Int)+2)).toNat=3 * (lv+2) by omega,Int.one_mul,h8,Int.natCast_pow]
     rfl
    have hw8:IntKind.i64.wrap ((8 ^ (lv+2):Nat):Int)=((8 ^ (lv+2):Nat):Int):=(fun (q:Nat) (hq:q≤4398046511104)=>wj (q:Int) (by omega)) _ Qd
    have TN:([d]:List Int).length≤64:=by simp
    have TO:0<([d]:List Int).length:=by simp
    have Lf:Bx (((zC6 c (a,lv,.uni d):Nat):Int)=((([d]:List Int).count c:Nat):Int) * ((8 ^ (lv+2):Nat):Int)):=⟨by
     unfold zC6;rw [List.count_singleton];by_cases h:d=c
     · simp [h]
     · simp [h]⟩
    have k3:=HX.o.cell 3 rfl;have QN:zJV (Tr.uni d)=[d]:=rfl;rw [QN] at AY;generalize hE8:((8 ^ (lv+2):Nat):Int)=e at *;generalize ([d]:List Int)=ys at *;generalize (idT ts (Tr.uni d):Int)=iX at *;generalize zi (Tr.uni d)=kT at *;clear Qd hE8 QN
    gi_wp2_with (first
     | ((try refine ⟨trivial,?_⟩);gi_at_call 39;refine (CallsIn.inRound l (callsIn_wide.2 B7.o)).mono ?_;rintro _ _ ⟨rfl,rfl⟩)
     | ((try refine ⟨trivial,?_⟩);gi_at_call 41;refine (CallsIn.inRound l (callsIn_wide.2 AY.o)).mono ?_;rintro _ W2 ⟨v,rfl,QQ,Js⟩;obtain ⟨va,vc,rfl⟩:=zy QQ))
    have Pf:w.heap.size+1+1<W.heap.size:=by have:=B1.o.size;omega
    obtain ⟨b0,off0,rfl,-⟩:=QQ.sl 0 _ (lge TO)
    have HI:Bx (CSt (fun k=>k=w.heap.size+1+1) W0.heap.size (w.heap.size+1+1) W.heap.size c SS e ys (.slice (some ⟨b0,off0,none⟩) ys.length vc) W 0 W2):=⟨⟨Rnd.below Js,by
     have h:=B5.o.la Js;rw [Cu.o] at h;simpa using h,QQ⟩⟩
    clear QQ Js B7 AY s0 B5 By
    gi_loopw [33] (fun v33 wr => ∃ j:Nat,j≤ys.length∧v33 = .int .i64 j∧Bx (CSt (fun k=>k=w.heap.size+1+1) W0.heap.size (w.heap.size+1+1) W.heap.size c SS e ys (.slice (some ⟨b0,off0,none⟩) ys.length vc) W j wr)) (fun i _=>ys.length - (intOf i).toNat)
    case atStart=>exact ⟨0,Nat.zero_le _,rfl,HI⟩
    case round =>
     clear HI;obtain ⟨j,hj,rfl,HI⟩:=hrel;by_cases hltj:j<ys.length
     · obtain ⟨x,hx⟩ : ∃ x,ys[j]? = some x:=⟨_,lge hltj⟩;have Ly:=zJc HI.o.own hx;have c1:=(HI.o.rnd.kp.bk Th.o (show ¬(w.heap.size+1=w.heap.size+1+1) by omega)).cell 0 rfl
       have n1:=HI.o.kn.cell 0 rfl;have n2:=HI.o.kn.frozen 0;have t1:decide ((j:Int)<(ys.length:Int))=true:=by simp;omega
       have b1:(0:Int)≤(j:Int):=by omega
       have b2:(j:Int)<(ys.length:Int):=by omega
       by_cases hxc:x=c
       · have t2:(x == c)=true:=by simp [hxc]
         have HJ:=Bx.mk (HI.o.hit (e1:=e) rfl rfl Pf (hxc ▸ hx));clear hx hxc
         gi_wp2
         go_roundw
         case rel=>exact ⟨j+1,by omega,by go_num,HJ⟩
         case measure=>simp [intOf];omega
       · have t2:(x == c)=false:=by simp [hxc]
         have HJ:=Bx.mk (HI.o.skip hx hxc);clear hx hxc
         gi_wp2
         go_roundw
         case rel=>exact ⟨j+1,by omega,by go_num,HJ⟩
         case measure=>simp [intOf];omega
     · obtain rfl:j=ys.length:=by omega
       have t1:decide ((ys.length:Int)<(ys.length:Int))=false:=by simp
       gi_wp2
       refine ⟨HI.o.rnd.kf,HI.o.rnd.kp,?_,B1.o.trans HI.o.rnd.kp⟩;have h:=HI.o.kn;rw [List.take_length,←Lf.o] at h
       show Bk _ _ #[(zC7 c _:Int)] _
       rw [Df.o];exact h
  · have t0:(zi (Tr.brick ys) == 1)=false:=rfl;have TN:ys.length≤64:=by have:=(Kp.bricks _ rfl).1;omega
    have TO:0<ys.length:=by have:=(Kp.bricks _ rfl).1;omega
    have Lf:Bx (((zC6 c (a,0,.brick ys):Nat):Int)=((ys.count c:Nat):Int) * 1):=⟨by simp [zC6]⟩
    have QN:zJV (Tr.brick ys)=ys:=rfl;rw [QN] at AY;generalize (idT ts (Tr.brick ys):Int)=iX at *;generalize zi (Tr.brick ys)=kT at *;obtain ⟨e,MN⟩ : ∃ e:Int,e=1:=⟨1,rfl⟩;rw [←MN] at Lf;have HE1:=Bx.mk MN.symm;clear QN Kp MN
    gi_wp2_with (first
     | ((try refine ⟨trivial,?_⟩);gi_at_call 39;refine (CallsIn.inRound l (callsIn_wide.2 B7.o)).mono ?_;rintro _ _ ⟨rfl,rfl⟩)
     | ((try refine ⟨trivial,?_⟩);gi_at_call 41;refine (CallsIn.inRound l (callsIn_wide.2 AY.o)).mono ?_;rintro _ W2 ⟨v,rfl,QQ,Js⟩;obtain ⟨va,vc,rfl⟩:=zy QQ))
    have Pf:w.heap.size+1+1<W.heap.size:=by have:=B1.o.size;omega
    obtain ⟨b0,off0,rfl,-⟩:=QQ.sl 0 _ (lge TO)
    have HI:Bx (CSt (fun k=>k=w.heap.size+1+1) W0.heap.size (w.heap.size+1+1) W.heap.size c SS e ys (.slice (some ⟨b0,off0,none⟩) ys.length vc) W 0 W2):=⟨⟨Rnd.below Js,by
     have h:=B5.o.la Js;rw [Cu.o] at h;simpa using h,QQ⟩⟩
    clear QQ Js B7 AY s0 B5 By
    gi_loopw [33] (fun v33 wr => ∃ j:Nat,j≤ys.length∧v33 = .int .i64 j∧Bx (CSt (fun k=>k=w.heap.size+1+1) W0.heap.size (w.heap.size+1+1) W.heap.size c SS e ys (.slice (some ⟨b0,off0,none⟩) ys.length vc) W j wr)) (fun i _=>ys.length - (intOf i).toNat)
    case atStart=>exact ⟨0,Nat.zero_le _,rfl,HI⟩
    case round =>
     clear HI;obtain ⟨j,hj,rfl,HI⟩:=hrel;by_cases hltj:j<ys.length
     · obtain ⟨x,hx⟩ : ∃ x,ys[j]? = some x:=⟨_,lge hltj⟩;have Ly:=zJc HI.o.own hx;have c1:=(HI.o.rnd.kp.bk Th.o (show ¬(w.heap.size+1=w.heap.size+1+1) by omega)).cell 0 rfl
       have n1:=HI.o.kn.cell 0 rfl;have n2:=HI.o.kn.frozen 0;have t1:decide ((j:Int)<(ys.length:Int))=true:=by simp;omega
       have b1:(0:Int)≤(j:Int):=by omega
       have b2:(j:Int)<(ys.length:Int):=by omega
       by_cases hxc:x=c
       · have t2:(x == c)=true:=by simp [hxc]
         have HJ:=Bx.mk (HI.o.hit (e1:=1) HE1.o rfl Pf (hxc ▸ hx));clear hx hxc
         gi_wp2
         go_roundw
         case rel=>exact ⟨j+1,by omega,by go_num,HJ⟩
         case measure=>simp [intOf];omega
       · have t2:(x == c)=false:=by simp [hxc]
         have HJ:=Bx.mk (HI.o.skip hx hxc);clear hx hxc
         gi_wp2
         go_roundw
         case rel=>exact ⟨j+1,by omega,by go_num,HJ⟩
         case measure=>simp [intOf];omega
     · obtain rfl:j=ys.length:=by omega
       have t1:decide ((ys.length:Int)<(ys.length:Int))=false:=by simp
       gi_wp2
       refine ⟨HI.o.rnd.kf,HI.o.rnd.kp,?_,B1.o.trans HI.o.rnd.kp⟩;have h:=HI.o.kn;rw [List.take_length,←Lf.o] at h
       show Bk _ _ #[(zC7 c _:Int)] _
       rw [Df.o];exact h
 case done =>
  rintro D ys W hD TG ⟨Tu,O5⟩ hK;have c1:=Tu.cell 0 rfl;rw [TG] at c1
  gi_wp2
  refine ⟨by simp,.inl ⟨_,_,rfl,run_takeDeferred hK,?_⟩⟩
  refine ⟨_,results_tmp rfl _ _ _,rfl,?_⟩;have OH:=O5.trans (KpE.putObj W D _ (.deferred none) hD hK rfl)
  exact A2.o.trans ⟨OH.os,OH.tape,OH.output,OH.size,fun k hk=>by
   have hlt:k<W0.heap.size:=by omega
   have e:W0.heap[k]? = some W0.heap[k]:=Array.getElem?_eq_getElem hlt;rw [e];exact OH.blk k _ e (show ¬(k=w.heap.size+1+1) by omega) (.inl hlt)⟩
 case stop =>
  rintro D cc pre W _ _ h _;exact h.elim
end
end Go.Proofs.YtfcbajmjaifjlaaGreat