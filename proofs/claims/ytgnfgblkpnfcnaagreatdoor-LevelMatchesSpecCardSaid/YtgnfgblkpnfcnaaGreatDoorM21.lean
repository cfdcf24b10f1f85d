/- Rps, CanP, ShaP, Cub, Enp: joined by program, for one claim. -/
import Derived.Test.YtgnfgblkpnfcnaaGreatDoorM20
set_option maxHeartbeats 4000000
set_option maxRecDepth 100000
set_option linter.unusedVariables false
set_option linter.unusedSimpArgs false
section
namespace Go.Proofs.YtgnfgblkpnfcnaaGreatDoor
open Go.RowKit Go.Sort Go.Maps
open Oct
structure RpI (w:World) (gv hv ov:Array Value) (n cap g1 go:Nat) (hb:Option Addr) (ys:List Int) (xs:List Int) (wr:World):Prop where
 kg:Bk wr w.heap.size gv 28
 kh:Bk wr (w.heap.size+1) hv 28
 kr:Bk wr (w.heap.size+1+1) #[(0:Int),(0:Int),(0:Int),(0:Int),(0:Int),(0:Int),.slice none 0 0] 28
 ko:Bk wr go ov 28
 own:Own wr (w.heap.size+1+1+1) 3 .i64 (.slice (some ⟨g1,0,none⟩) n cap) xs
 bel:Below w.heap.size w wr
 sl:Sl wr .i64 hb ys
 lt:w.heap.size+1+1<g1∧g1<go
theorem RpI.later {w wr w':World} {gv hv ov:Array Value} {n cap g1 go:Nat} {hb:Option Addr} {ys xs:List Int} (H:RpI w gv hv ov n cap g1 go hb ys xs wr) (h:Below wr.heap.size wr w'):RpI w gv hv ov n cap g1 go hb ys xs w' :=
 ⟨H.kg.later h,H.kh.later h,H.kr.later h,H.ko.later h,H.own.below h,H.bel.trans (h.mono H.bel.size),H.sl.below h,H.lt⟩
theorem RpI.put {w wr:World} {gv hv ov:Array Value} {n cap g1 go:Nat} {hb:Option Addr} {ys xs:List Int} (H:RpI w gv hv ov n cap g1 go hb ys xs wr) (hn:xs.length=n) (h0:0<n) (hf:ys ≠ [] → ∀ b,hb.map (·.block)=some b→b<w.heap.size) (k:Nat) (x:Int):RpI w gv hv ov n cap g1 go hb ys (xs.set k x) (wr.setCell ⟨g1,k,none⟩ (.int .i64 x)):=by
 have hlt:=H.lt;obtain ⟨g',cap',he,-,-,-,-,hst⟩:=H.own.at (by omega)
 rw [hn] at he hst;injection he with h1 h2 h3;injection h1 with h1;injection h1 with h1;subst h1 h3;refine ⟨H.kg.other _ _ (by simp only;omega),H.kh.other _ _ (by simp only;omega),H.kr.other _ _ (by simp only;omega),H.ko.other _ _ (by simp only;omega),hst k x,H.bel.setCell (by simp only;omega) _,?_,hlt⟩
 intro i y hy;obtain ⟨b',off',he,hc⟩:=H.sl i y hy;refine ⟨b',off',he,?_⟩;have:=hf (by rintro rfl;simp at hy) b' (by rw [he];rfl)
 rw [World.cell?_of_block (heap_setCell_other wr _ _ _ (by simp only;omega))];exact hc
def zD8 (b:Box) (zs:List Int) (G:Pt→Int) (inn:Pt→Bool) (k:Nat):List Int:=(List.range zs.length).map fun j:Nat=>if j<k∧inn (atB b (j:Int))=true then G (atB b (j:Int)) else zs.getD j 0
theorem zEC (b:Box) (zs:List Int) (G:Pt→Int) (inn:Pt→Bool) (k:Nat):(zD8 b zs G inn k).length=zs.length:=by simp [zD8]
theorem zEB (b:Box) (zs:List Int) (G:Pt→Int) (inn:Pt→Bool) (k:Nat) {j:Nat} (hj:j<zs.length):(zD8 b zs G inn k)[j]? = some (if j<k∧inn (atB b (j:Int))=true then G (atB b (j:Int)) else zs.getD j 0):=by
 unfold zD8;rw [List.getElem?_map,List.getElem?_range hj];rfl
theorem zEF (b:Box) (zs:List Int) (G:Pt→Int) (inn:Pt→Bool):zD8 b zs G inn 0=zs:=by
 apply List.ext_getElem?;intro i;rcases Nat.lt_or_ge i zs.length with h | h
 · rw [zEB b zs G inn 0 h,if_neg (by omega),List.getD,List.getElem?_eq_getElem h]
   rfl
 · rw [List.getElem?_eq_none (by rw [zEC];exact h),List.getElem?_eq_none h]
theorem zEA (b:Box) (zs:List Int) (G:Pt→Int) (inn:Pt→Bool) {k:Nat} (hk:k<zs.length):(zD8 b zs G inn k)[k]? = some (zs.getD k 0):=by
 rw [zEB b zs G inn k hk,if_neg (by omega)]
theorem zED (b:Box) (zs:List Int) (G:Pt→Int) (inn:Pt→Bool) {k:Nat} (hk:k<zs.length) (hi:inn (atB b (k:Int))=true):(zD8 b zs G inn k).set k (G (atB b (k:Int)))=zD8 b zs G inn (k+1):=by
 apply List.ext_getElem?;intro i;rw [List.getElem?_set];rcases Nat.lt_or_ge i zs.length with h | h
 · rw [zEB b zs G inn k h,zEB b zs G inn (k+1) h];by_cases e:k=i
   · subst e;rw [if_pos rfl,if_pos (by rw [zEC];exact hk),if_pos ⟨Nat.lt_succ_self k,hi⟩]
   · rw [if_neg e];by_cases h2:i<k
     · simp [h2,Nat.lt_succ_of_lt h2]
     · rw [if_neg (fun h=>h2 h.1),if_neg (fun h=>h2 (by omega))]
 · rw [if_neg (by omega),List.getElem?_eq_none (by rw [zEC];exact h),List.getElem?_eq_none (by rw [zEC];exact h)]
theorem zEE (b:Box) (zs:List Int) (G:Pt→Int) (inn:Pt→Bool) {k:Nat} (hi:inn (atB b (k:Int))=false):zD8 b zs G inn k=zD8 b zs G inn (k+1):=by
 unfold zD8;refine List.map_congr_left fun j _=>?_;by_cases e:j=k
 · subst e;rw [if_neg (by omega),if_neg (by rw [hi];simp)]
 · by_cases h2:j<k
   · simp [h2,Nat.lt_succ_of_lt h2]
   · rw [if_neg (fun h=>h2 h.1),if_neg (fun h=>h2 (by omega))]
theorem zD9 (b:Box) (F G:Pt→Int) (inn:Pt→Bool) {n:Nat} (hn:(cellsOf b F).length=n):zD8 b (cellsOf b F) G inn n=cellsOf b fun p=>if inn p=true then G p else F p:=by
 apply List.ext_getElem?;intro i;rcases Nat.lt_or_ge i n with h | h
 · rw [zEB b _ G inn n (by omega),zCW (by rw [zI] at hn;omega),List.getD,zCW (by rw [zI] at hn;omega)]
   by_cases hi:inn (atB b (i:Int))=true
   · rw [if_pos ⟨h,hi⟩,if_pos hi]
   · rw [if_neg (fun h=>hi h.2),if_neg hi];rfl
 · rw [List.getElem?_eq_none (by rw [zEC];omega),List.getElem?_eq_none (by rw [zI] at hn ⊢; omega)]
theorem zKx (a b c d e f a2 b2 c2 d2 e2 f2:Int) (pb po n hcp:Nat) (hb:Option Addr) (hcp2:Nat) (ys:List Int) (HS:Small ⟨⟨a,b,c⟩,⟨d,e,f⟩⟩ 1048575) (hV:zAC ⟨⟨a,b,c⟩,⟨d,e,f⟩⟩=n) (h0:0<n) (hle:n≤5000) (HX:GoodG ⟨⟨a2,b2,c2⟩,⟨d2,e2,f2⟩⟩ ys hcp2) (F0:Pt→Int) (zs:List Int) (hzs:zs=cellsOf ⟨⟨a,b,c⟩,⟨d,e,f⟩⟩ F0) (w:World) (hsl:Sl w .i64 (some ⟨pb,po,none⟩) zs) (hsm:Sl w .i64 hb ys) :
 Calls Tryz.prog 141 #[.agg #[a,b,c,d,e,f,.slice (some ⟨pb,po,none⟩) n hcp],.agg #[a2,b2,c2,d2,e2,f2,.slice hb ys.length hcp2]] w fun e' w' => ∃ g cap,e' = .returned (.agg #[a,b,c,d,e,f,.slice (some ⟨g,0,none⟩) n cap])∧Own w' w.heap.size 3 .i64 (.slice (some ⟨g,0,none⟩) n cap) (cellsOf ⟨⟨a,b,c⟩,⟨d,e,f⟩⟩ fun p=>if inB p ⟨⟨a2,b2,c2⟩,⟨d2,e2,f2⟩⟩=true then zF ⟨⟨a2,b2,c2⟩,⟨d2,e2,f2⟩⟩ ys p else F0 p)∧Below w.heap.size w w':=by
 have hzl:zs.length=n:=by rw [hzs,zI];omega
 have hcpd:=Bx.mk fun W (h:Sl W .i64 (some ⟨pb,po,none⟩) zs)=>zKe a b c d e f pb po hcp n zs hzl h0 hle W h;have hat:=Bx.mk fun W (k:Nat) (hk:k<n)=>zKa a b c d e f (k:Int) HS (by omega) W
 have hin:=Bx.mk fun W (k:Nat)=>zKk (atB ⟨⟨a,b,c⟩,⟨d,e,f⟩⟩ (k:Int)).x (atB ⟨⟨a,b,c⟩,⟨d,e,f⟩⟩ (k:Int)).y (atB ⟨⟨a,b,c⟩,⟨d,e,f⟩⟩ (k:Int)).z a2 b2 c2 d2 e2 f2 W;have hgt:=Bx.mk fun W (k:Nat) (h:Sl W .i64 hb ys)=>zKh a2 b2 c2 d2 e2 f2 (atB ⟨⟨a,b,c⟩,⟨d,e,f⟩⟩ (k:Int)).x (atB ⟨⟨a,b,c⟩,⟨d,e,f⟩⟩ (k:Int)).y (atB ⟨⟨a,b,c⟩,⟨d,e,f⟩⟩ (k:Int)).z hb hcp2 ys HX W h;have hall:=Bx.mk (show zD8 ⟨⟨a,b,c⟩,⟨d,e,f⟩⟩ zs (zF ⟨⟨a2,b2,c2⟩,⟨d2,e2,f2⟩⟩ ys) (fun p=>inB p ⟨⟨a2,b2,c2⟩,⟨d2,e2,f2⟩⟩) n=cellsOf ⟨⟨a,b,c⟩,⟨d,e,f⟩⟩ fun p=>if inB p ⟨⟨a2,b2,c2⟩,⟨d2,e2,f2⟩⟩=true then zF ⟨⟨a2,b2,c2⟩,⟨d2,e2,f2⟩⟩ ys p else F0 p from by rw [hzs];exact zD9 _ _ _ _ (by rw [←hzs];exact hzl))
 have hset:=Bx.mk fun (k:Nat) (hk:k<n) (hi:inB (atB ⟨⟨a,b,c⟩,⟨d,e,f⟩⟩ (k:Int)) ⟨⟨a2,b2,c2⟩,⟨d2,e2,f2⟩⟩=true)=>zED ⟨⟨a,b,c⟩,⟨d,e,f⟩⟩ zs (zF ⟨⟨a2,b2,c2⟩,⟨d2,e2,f2⟩⟩ ys) (fun p=>inB p ⟨⟨a2,b2,c2⟩,⟨d2,e2,f2⟩⟩) (k:=k) (by omega) hi
 have hstay:=Bx.mk fun (k:Nat) (hi:inB (atB ⟨⟨a,b,c⟩,⟨d,e,f⟩⟩ (k:Int)) ⟨⟨a2,b2,c2⟩,⟨d2,e2,f2⟩⟩=false)=>zEE ⟨⟨a,b,c⟩,⟨d,e,f⟩⟩ zs (zF ⟨⟨a2,b2,c2⟩,⟨d2,e2,f2⟩⟩ ys) (fun p=>inB p ⟨⟨a2,b2,c2⟩,⟨d2,e2,f2⟩⟩) (k:=k) hi;have hlen:=Bx.mk fun (k:Nat)=>(zEC ⟨⟨a,b,c⟩,⟨d,e,f⟩⟩ zs (zF ⟨⟨a2,b2,c2⟩,⟨d2,e2,f2⟩⟩ ys) (fun p=>inB p ⟨⟨a2,b2,c2⟩,⟨d2,e2,f2⟩⟩) k).trans hzl;have hzero:=Bx.mk (zEF ⟨⟨a,b,c⟩,⟨d,e,f⟩⟩ zs (zF ⟨⟨a2,b2,c2⟩,⟨d2,e2,f2⟩⟩ ys) (fun p=>inB p ⟨⟨a2,b2,c2⟩,⟨d2,e2,f2⟩⟩));have hfat:=Bx.mk fun (k:Nat) (hk:k<n)=>zEA ⟨⟨a,b,c⟩,⟨d,e,f⟩⟩ zs (zF ⟨⟨a2,b2,c2⟩,⟨d2,e2,f2⟩⟩ ys) (fun p=>inB p ⟨⟨a2,b2,c2⟩,⟨d2,e2,f2⟩⟩) (k:=k) (by omega)
 have hfar:=Bx.mk (show ys ≠ [] → ∀ b,hb.map (·.block)=some b→b<w.heap.size from fun hx b hb'=>by
  obtain ⟨x,r,rfl⟩:=List.exists_cons_of_ne_nil hx;obtain ⟨b',off,h1,h2⟩:=hsm 0 x rfl;rw [h1] at hb';simp only [Option.map_some,Option.some.injEq] at hb';rw [←hb'];exact World.block_lt_of_cell? w _ h2)
 have Hsl:=Bx.mk hsl;have Hsm:=Bx.mk hsm;clear hsl hsm HS hV HX hzs hzl;go_enter Tryz.func141,Tryz.ntmps141;go_wp2_with fail;generalize hW:World.alloc (World.alloc (World.alloc w _) _) _=W;have hSz:=sz3 hW;have hB:=bl3 hW;have kg:Bk W (w.heap.size) #[a,b,c,d,e,f,.slice (some ⟨pb,po,none⟩) n hcp] 28:=bk2 hW;have kh:Bk W (w.heap.size+1) #[a2,b2,c2,d2,e2,f2,.slice hb ys.length hcp2] 28:=bk1 hW;have kr:Bk W (w.heap.size+1+1) #[(0:Int),(0:Int),(0:Int),(0:Int),(0:Int),(0:Int),.slice none 0 0] 28:=bk0 hW;clear hW;obtain ⟨cg0,cg1,cg2,cg3,cg4,cg5,cg6⟩:=kg.c7;have q0:True:=trivial;refine (hcpd.out _ (Hsl.out.below hB)).mono ?_;rintro _ w1 ⟨g1,cap,rfl,hown,hb1⟩;have hg1:=hown.lt g1 rfl;have hSzW:=hSz;have Hown:=Bx.mk hown;replace hB:=hB.trans (hb1.mono hB.size);replace kg:=kg.later hb1;replace kh:=kh.later hb1;replace kr:=kr.later hb1;replace hSz:=Nat.le_trans hSz hb1.size;clear hb1;clear cg0 cg1 cg2 cg3 cg4 cg5 cg6;clear hown q0;go_wp2_with fail;generalize hW1:World.alloc w1 _=V1;have hb9:=bl1 hW1;have ko:Bk V1 w1.heap.size #[a,b,c,d,e,f,.slice (some ⟨g1,0,none⟩) n cap] 28:=bk0 hW1 rfl
 have HI:Bx (RpI w #[a,b,c,d,e,f,.slice (some ⟨pb,po,none⟩) n hcp] #[a2,b2,c2,d2,e2,f2,.slice hb ys.length hcp2] #[a,b,c,d,e,f,.slice (some ⟨g1,0,none⟩) n cap] n cap g1 w1.heap.size hb ys (zD8 ⟨⟨a,b,c⟩,⟨d,e,f⟩⟩ zs (zF ⟨⟨a2,b2,c2⟩,⟨d2,e2,f2⟩⟩ ys) (fun p=>inB p ⟨⟨a2,b2,c2⟩,⟨d2,e2,f2⟩⟩) 0) V1):=⟨by
  rw [hzero.out];exact ⟨kg.later hb9,kh.later hb9,kr.later hb9,ko,(Hown.out.base (by omega)).below hb9,hB.trans (hb9.mono hB.size),Hsm.out.below (hB.trans (hb9.mono hB.size)),by omega⟩⟩
 clear hW1 hb9 ko kg kh kr hB hSz hSzW Hown hg1 hzero hcpd Hsl;generalize w1.heap.size=go at *
 go_loopw [6] (fun v6 wr => ∃ k:Nat,k≤n∧v6 = .int .i64 k∧Bx (RpI w #[a,b,c,d,e,f,.slice (some ⟨pb,po,none⟩) n hcp] #[a2,b2,c2,d2,e2,f2,.slice hb ys.length hcp2] #[a,b,c,d,e,f,.slice (some ⟨g1,0,none⟩) n cap] n cap g1 go hb ys (zD8 ⟨⟨a,b,c⟩,⟨d,e,f⟩⟩ zs (zF ⟨⟨a2,b2,c2⟩,⟨d2,e2,f2⟩⟩ ys) (fun p=>inB p ⟨⟨a2,b2,c2⟩,⟨d2,e2,f2⟩⟩) k) wr)) (fun i _=>n - (intOf i).toNat)
 case atStart=>exact ⟨0,Nat.zero_le _,rfl,HI⟩
 case round =>
  clear HI;obtain ⟨k,hk,rfl,HI⟩:=hrel;by_cases hlt:k<n
  · have t0:decide ((k:Int)<(n:Int))=true:=by simp;omega
    have z1:=fun W=>hat.out W k hlt;have z2:=fun W=>hin.out W k;have z3:=fun W=>hgt.out W k;have z4:=hset.out k hlt;have z5:=hstay.out k;have z6:=hfat.out k hlt;generalize zF ⟨⟨a2,b2,c2⟩,⟨d2,e2,f2⟩⟩ ys=FF at *;rcases hpt:atB ⟨⟨a,b,c⟩,⟨d,e,f⟩⟩ (k:Int) with ⟨px,py,pz⟩;simp only [hpt] at z1 z2 z3 z4 z5;generalize hfp:FF ⟨px,py,pz⟩=x at *;generalize hib:inB ⟨px,py,pz⟩ ⟨⟨a2,b2,c2⟩,⟨d2,e2,f2⟩⟩=ib at *;have z1:=Bx.mk z1;have z2:=Bx.mk z2;have z3:=Bx.mk z3;have z4:=Bx.mk z4;have z5:=Bx.mk z5;have z6:=Bx.mk z6;clear hpt hfp hib;obtain ⟨cg0,cg1,cg2,cg3,cg4,cg5,cg6⟩:=HI.out.kg.c7;go_wp2_with fail;refine (z1.out _).mono ?_;rintro _ w2 ⟨rfl,hb2⟩;have HI2:=Bx.mk (HI.out.later hb2);have ch0 : ∀ o,(w2.alloc o).cell? ⟨w.heap.size+1,0,none⟩=some (.int .i64 a2):=fun o=>Bk.cell (zE HI2.out.kh) 0 rfl;have ch1 : ∀ o,(w2.alloc o).cell? ⟨w.heap.size+1,1,none⟩=some (.int .i64 b2):=fun o=>Bk.cell (zE HI2.out.kh) 1 rfl;have ch2 : ∀ o,(w2.alloc o).cell? ⟨w.heap.size+1,2,none⟩=some (.int .i64 c2):=fun o=>Bk.cell (zE HI2.out.kh) 2 rfl;have ch3 : ∀ o,(w2.alloc o).cell? ⟨w.heap.size+1,3,none⟩=some (.int .i64 d2):=fun o=>Bk.cell (zE HI2.out.kh) 3 rfl;have ch4 : ∀ o,(w2.alloc o).cell? ⟨w.heap.size+1,4,none⟩=some (.int .i64 e2):=fun o=>Bk.cell (zE HI2.out.kh) 4 rfl;have ch5 : ∀ o,(w2.alloc o).cell? ⟨w.heap.size+1,5,none⟩=some (.int .i64 f2):=fun o=>Bk.cell (zE HI2.out.kh) 5 rfl;clear HI hb2 cg0 cg1 cg2 cg3 cg4 cg5 cg6;go_wp2_with fail;generalize hW3:World.alloc w2 _=V3;have hb3:=bl1 hW3;have kp:Bk V3 w2.heap.size #[px,py,pz] 23:=bk0 hW3 rfl;have HI3:=Bx.mk (HI2.out.later hb3);clear hW3 hb3 ch0 ch1 ch2 ch3 ch4 ch5 HI2;generalize w2.heap.size=gp at *;refine (z2.out _).mono ?_;rintro _ w4 ⟨rfl,hb4⟩;have HI4:=Bx.mk (HI3.out.later hb4);replace kp:=kp.later hb4;clear hb4 HI3;cases ib with
    | false =>
      have HI5:=HI4.out;rw [z5.out rfl] at HI5;have HI6:=Bx.mk HI5;clear HI5;go_wp2_with fail
      go_roundw
      case rel=>exact ⟨k+1,by omega,by go_num,HI6⟩
      case measure=>simp [intOf];omega
    | true =>
      obtain ⟨ch0,ch1,ch2,ch3,ch4,ch5,ch6⟩:=HI4.out.kh.r7;obtain ⟨cp0,cp1,cp2⟩:=kp.r3;have co6 : ∀ dk osk,(grow (redrawn w4 dk) osk).cell? ⟨go,6,none⟩=some (.slice (some ⟨g1,0,none⟩) n cap):=cell_regrown (HI4.out.ko.cell 6 rfl);have q0:=Bx.mk fun dk osk=>Calls.regrown_of (z3.out (grow (redrawn w4 dk) osk) (HI4.out.sl.below (below_regrown w4 dk osk)));have b1:(0:Int)≤(k:Int):=by omega
      have b2:(k:Int)<(n:Int):=by omega
      go_wp2_with fail;refine zAM 7 (by kernel_rfl) (by kernel_rfl) ?_
      simp only [List.take_succ_cons,List.take_zero,List.drop_succ_cons,List.drop_zero]
      repeat (first | go_big_quiet_step ((first | with_reducible exact q0.out _ _)) | quiet_step (first | with_reducible exact q0.out _ _))
      refine wpQuiet_nil ?_;rintro _ ⟨⟨dq,osq⟩,rfl⟩;have HI5:=Bx.mk (HI4.out.later (below_regrown w4 dq osq));clear q0 ch0 ch1 ch2 ch3 ch4 ch5 ch6 cp0 cp1 cp2 co6 HI4 kp;generalize grow (redrawn w4 dq) osq=w5 at *;have HL:=Bx.mk (hlen.out k);obtain ⟨g9,cap9,he9,-,-,hc9,hf9,-⟩:=HI5.out.own.at (by rw [HL.out];omega)
      rw [HL.out] at he9;injection he9 with h91 h92 h93;injection h91 with h91;injection h91 with h91;subst h91;have ck:=hc9 k _ z6.out;have fk:=hf9 k;have HI6:=HI5.out.put HL.out h0 hfar.out k x;rw [z4.out (by first | rfl | trivial)] at HI6
      have HI7:=Bx.mk HI6;clear HI6 hc9 hf9 h92 h93;go_wp2_with fail
      go_roundw
      case rel=>exact ⟨k+1,by omega,by go_num,HI7⟩
      case measure=>simp [intOf];omega
  · obtain rfl:k=n:=by omega
    have t0:decide ((k:Int)<(k:Int))=false:=by simp
    have HI2:=HI.out;rw [hall.out] at HI2;have kg:=HI2.kg;have ko:=HI2.ko;have kr:=HI2.kr;have hB:=HI2.bel;have hlo:=HI2.lt;have hO:=HI2.own;clear HI HI2 hall hat hin hgt hset hstay hlen hfat
    have cg6:=kg.cell 6 rfl;obtain ⟨co0,co1,co2,co3,co4,co5,co6⟩:=ko.c7;have cr0:=kr.cell 0 rfl;have fr0:=kr.frozen 0;have cr1:=kr.cell 1 rfl;have fr1:=kr.frozen 1;have cr2:=kr.cell 2 rfl;have fr2:=kr.frozen 2;have cr3:=kr.cell 3 rfl;have fr3:=kr.frozen 3;have cr4:=kr.cell 4 rfl;have fr4:=kr.frozen 4;have cr5:=kr.cell 5 rfl;have fr5:=kr.frozen 5;have cr6:=kr.cell 6 rfl;have fr6:=kr.frozen 6;have kr2:=kr.put7 (.int .i64 a) (.int .i64 b) (.int .i64 c) (.int .i64 d) (.int .i64 e) (.int .i64 f) (.slice (some ⟨g1,0,none⟩) k cap);have hB2:=Bx.mk (zBj hB (show w.heap.size≤w.heap.size+1+1 by omega) (.int .i64 a) (.int .i64 b) (.int .i64 c) (.int .i64 d) (.int .i64 e) (.int .i64 f) (.slice (some ⟨g1,0,none⟩) k cap))
    have hO2:=Bx.mk (((((((hO.setBelow (a:=⟨w.heap.size+1+1,0,none⟩) (by simp only;omega) (.int .i64 a)).setBelow (a:=⟨w.heap.size+1+1,1,none⟩) (by simp only;omega) (.int .i64 b)).setBelow (a:=⟨w.heap.size+1+1,2,none⟩) (by simp only;omega) (.int .i64 c)).setBelow (a:=⟨w.heap.size+1+1,3,none⟩) (by simp only;omega) (.int .i64 d)).setBelow (a:=⟨w.heap.size+1+1,4,none⟩) (by simp only;omega) (.int .i64 e)).setBelow (a:=⟨w.heap.size+1+1,5,none⟩) (by simp only;omega) (.int .i64 f)).setBelow (a:=⟨w.heap.size+1+1,6,none⟩) (by simp only;omega) (.slice (some ⟨g1,0,none⟩) k cap))
    clear hB hO;go_wp2_with fail;exact bodyPost_ret (v:=.agg #[a,b,c,d,e,f,.slice (some ⟨g1,0,none⟩) k cap]) (results_cell_row rfl _ _ _ 28 #[a,b,c,d,e,f,.slice (some ⟨g1,0,none⟩) k cap] (0,0) _ rfl kr2 Tryz.underlying28 rfl (by kernel_rfl)) rfl ⟨g1,cap,rfl,hO2.out.base (by omega),hB2.out⟩
theorem zKw (a b c d e f a2 b2 c2 d2 e2 f2:Int) (pb po n hcp:Nat) (hb:Option Addr) (hcp2:Nat) (ys:List Int) (HS:Small ⟨⟨a,b,c⟩,⟨d,e,f⟩⟩ 1048575) (hV:zAC ⟨⟨a,b,c⟩,⟨d,e,f⟩⟩=n) (h0:0<n) (hle:n≤5000) (HX:GoodG ⟨⟨a2,b2,c2⟩,⟨d2,e2,f2⟩⟩ ys hcp2) (w:World) (hsl:Sl w .i64 (some ⟨pb,po,none⟩) (List.replicate n 0)) (hsm:Sl w .i64 hb ys) :
 Calls Tryz.prog 141 #[.agg #[a,b,c,d,e,f,.slice (some ⟨pb,po,none⟩) n hcp],.agg #[a2,b2,c2,d2,e2,f2,.slice hb ys.length hcp2]] w fun e' w' => ∃ g cap,e' = .returned (.agg #[a,b,c,d,e,f,.slice (some ⟨g,0,none⟩) n cap])∧Own w' w.heap.size 3 .i64 (.slice (some ⟨g,0,none⟩) n cap) (cellsOf ⟨⟨a,b,c⟩,⟨d,e,f⟩⟩ (zF ⟨⟨a2,b2,c2⟩,⟨d2,e2,f2⟩⟩ ys))∧Below w.heap.size w w':=by
 have hz:List.replicate n (0:Int)=cellsOf ⟨⟨a,b,c⟩,⟨d,e,f⟩⟩ fun _=>0:=by
  unfold cellsOf;rw [hV,List.map_const',List.length_range];rfl
 have h:=zKx a b c d e f a2 b2 c2 d2 e2 f2 pb po n hcp hb hcp2 ys HS hV h0 hle HX (fun _=>0) _ hz w hsl hsm
 have he:(cellsOf ⟨⟨a,b,c⟩,⟨d,e,f⟩⟩ fun p=>if inB p ⟨⟨a2,b2,c2⟩,⟨d2,e2,f2⟩⟩=true then zF ⟨⟨a2,b2,c2⟩,⟨d2,e2,f2⟩⟩ ys p else 0)=cellsOf ⟨⟨a,b,c⟩,⟨d,e,f⟩⟩ (zF ⟨⟨a2,b2,c2⟩,⟨d2,e2,f2⟩⟩ ys):=zCV fun p _=>by
  unfold zF;split <;> rfl
 rw [he] at h;exact h
end Go.Proofs.YtgnfgblkpnfcnaaGreatDoor
namespace Go.Proofs.YtgnfgblkpnfcnaaGreatDoor
open Oct
def fs (F H:Pt→Int) (pt:Nat→Pt):Nat→Pt→Int
 | 0=>F
 | i+1=>Tr.upd (fs F H pt i) (pt i) (H (pt i))
end Go.Proofs.YtgnfgblkpnfcnaaGreatDoor
namespace Go.Proofs.YtgnfgblkpnfcnaaGreatDoor
open Oct
def shf (d:Pt) (f:Pt→Int):Pt→Int:=fun o=>f ⟨d.x+o.x,d.y+o.y,d.z+o.z⟩
theorem zCE (d:Pt) (f:Pt→Int) : ∀ (n:Nat) (b:Pt),Tr.can (shf d f) n b=Tr.can f n ⟨d.x+b.x,d.y+b.y,d.z+b.z⟩
 | 0, b => by
   unfold Tr.can
   congr 1
   apply List.map_congr_left;intro k _;unfold shf Tr.cellAt;simp only [Int.add_assoc]
 | n + 1, b => by
   unfold Tr.can
   congr 1
   funext i
   rw [zCE d f n];unfold Tr.cor;simp only [Int.add_assoc]
def cb (p:Pt) (L:Nat):Box:=⟨p,⟨p.x+2 ^ L,p.y+2 ^ L,p.z+2 ^ L⟩⟩
end Go.Proofs.YtgnfgblkpnfcnaaGreatDoor
namespace Go.Proofs.YtgnfgblkpnfcnaaGreatDoor
open Go.RowKit Go.Sort Go.Maps
open Oct
theorem zL8 (L:Nat) (hL:L≤14) (w:World) :
 Calls Tryz.prog 59 #[(L:Int)] w fun e w'=>e = .returned (.int .i64 ((2:Int) ^ L))∧w=w':=by
 go_enter Tryz.func59,Tryz.ntmps59;go_wp2_with fail
 go_loop [3,4] (fun v3 v4 => ∃ k:Nat,k≤L∧v4 = .int .i64 k∧v3 = .int .i64 ((2:Int) ^ k)) (fun _ i=>L - (intOf i).toNat)
 case atStart=>exact ⟨0,Nat.zero_le _,rfl,rfl⟩
 case round =>
  obtain ⟨k,hk,rfl,rfl⟩:=hrel;by_cases hlt:k<L
  · have t0:decide ((k:Int)<(L:Int))=true:=by simp;omega
    have hp:=(zn (show k≤14 by omega))
    have hp2:=(zn (show k+1≤14 by omega))
    have hs:(2:Int) * 2 ^ k=2 ^ (k+1):=by rw [Int.pow_succ];omega
    have hw:IntKind.i64.wrap ((2:Int) * 2 ^ k)=2 ^ (k+1):=by rw [hs];exact IntWalk.i64_in _ (by omega)
    generalize hq:(2:Int) ^ k=q at *;generalize hr:(2:Int) ^ (k+1)=r at *;go_wp2_with fail;go_round
    case rel=>exact ⟨k+1,by omega,by go_num,by rw [hr]⟩
    case measure=>simp [intOf];omega
  · obtain rfl:k=L:=by omega
    have t0:decide ((k:Int)<(k:Int))=false:=by simp
    go_wp2_with fail;go_ret;exact ⟨rfl,rfl⟩
theorem zDA (px py pz:Int) (L:Nat) (hL:L≤14) (hx:0≤px∧px≤100000) (hy:0≤py∧py≤100000) (hz:0≤pz∧pz≤100000) (w:World) :
 Calls Tryz.prog 27 #[.agg #[px,py,pz],(L:Int)] w fun e w'=>e = .returned (.agg #[px,py,pz,.int .i64 (px+2 ^ L),.int .i64 (py+2 ^ L),.int .i64 (pz+2 ^ L)])∧Below w.heap.size w w':=by
 have hsd:=fun W=>zL8 L hL W;have hp:=(zn hL);generalize hm:(2:Int) ^ L=m at *;have hsd:=Bx.mk hsd;have t1:=IntWalk.i64_in (px+m) (by omega)
 have t2:=IntWalk.i64_in (py+m) (by omega)
 have t3:=IntWalk.i64_in (pz+m) (by omega)
 clear hp hx hy hz hm;go_enter Tryz.func27,Tryz.ntmps27;go_wp2_with fail;generalize hW:World.alloc (World.alloc w _) _=W;have hSz:=sz2 hW;have hB:=bl2 hW;have kp:Bk W (w.heap.size) #[px,py,pz] 23:=bk1 hW;have kr:Bk W (w.heap.size+1) #[(0:Int),(0:Int),(0:Int),(0:Int),(0:Int),(0:Int)] 25:=bk0 hW;clear hW;refine (hsd.out _).mono ?_;rintro _ _ ⟨rfl,rfl⟩;obtain ⟨cp0,cp1,cp2⟩:=kp.c3;obtain ⟨cr0,cr1,cr2,cr3,cr4,cr5⟩:=kr.c6;obtain ⟨fr0,fr1,fr2,fr3,fr4,fr5⟩:=kr.f6;go_wp2_with fail;replace kr:=kr.put6 (.int .i64 px) (.int .i64 py) (.int .i64 pz) (.int .i64 (px+m)) (.int .i64 (py+m)) (.int .i64 (pz+m));clear cr0 cr1 cr2 cr3 cr4 cr5;obtain ⟨z0,z1,z2,z3,z4,z5⟩:=kr.c6;exact bodyPost_ret (v:=.agg #[px,py,pz,.int .i64 (px+m),.int .i64 (py+m),.int .i64 (pz+m)]) (results_cell_row rfl _ _ (w.heap.size+1) 25 #[px,py,pz,.int .i64 (px+m),.int .i64 (py+m),.int .i64 (pz+m)] (0,0) _ rfl kr Tryz.underlying25 rfl (by kernel_rfl)) rfl ⟨rfl,zBi hB (by omega) _ _ _ _ _ _⟩
end Go.Proofs.YtgnfgblkpnfcnaaGreatDoor
namespace Go.Proofs.YtgnfgblkpnfcnaaGreatDoor
namespace Oct
namespace Tr
def pos (ch:Fin 8→Tr) (k:Nat):Nat:=2+((List.ofFn fun i=>enc (ch i)).take k).flatten.length
theorem pos_zero (ch:Fin 8→Tr):pos ch 0=2:=by simp [pos]
theorem pos_succ (ch:Fin 8→Tr) {k:Nat} (hk:k<8):pos ch (k+1)=pos ch k+(enc (ch ⟨k,hk⟩)).length:=by
 unfold pos;rw [List.take_succ_eq_append_getElem (by rw [List.length_ofFn];exact hk),List.flatten_append,List.length_append,List.getElem_ofFn,List.flatten_cons,List.flatten_nil,List.append_nil]
 omega
theorem pos_all (d:Nat) (ch:Fin 8→Tr):pos ch 8=(enc (.node d ch)).length:=by
 unfold pos;rw [List.take_of_length_le (by simp),enc]
 simp only [List.length_cons];omega
theorem enc_node (d:Nat) (ch:Fin 8→Tr):enc (.node d ch)=110::(d:Int)::(List.ofFn fun i=>enc (ch i)).flatten:=by rw [enc]
theorem drop_pos (d:Nat) (ch:Fin 8→Tr) (r:List Int) {k:Nat} (hk:k<8) :
 (enc (.node d ch)++r).drop (pos ch k)=enc (ch ⟨k,hk⟩)++(((List.ofFn fun i=>enc (ch i)).drop (k+1)).flatten++r):=by
 rw [enc_node];unfold pos;generalize hL:(List.ofFn fun i=>enc (ch i))=L;have hl:k<L.length:=by rw [←hL,List.length_ofFn];exact hk
 have hg:L[k]=enc (ch ⟨k,hk⟩):=by subst hL;rw [List.getElem_ofFn]
 rw [Nat.add_comm,List.cons_append,List.cons_append,List.drop_succ_cons,List.drop_succ_cons]
 conv=>lhs;rw [←List.take_append_drop k L,List.flatten_append,List.append_assoc]
 rw [List.drop_append_of_le_length (by rw [List.take_append_drop];exact Nat.le_refl _)]
 rw [List.take_append_drop];rw [List.drop_length,List.nil_append,List.drop_eq_getElem_cons hl,List.flatten_cons,hg,List.append_assoc]
theorem pos_le (d:Nat) (ch:Fin 8→Tr) {k:Nat} (hk:k≤8):pos ch k≤(enc (.node d ch)).length:=by
 rw [←pos_all d ch];unfold pos
 have : ∀ m,k≤m→((List.ofFn fun i=>enc (ch i)).take k).flatten.length≤((List.ofFn fun i=>enc (ch i)).take m).flatten.length:=by
  intro m hm;obtain ⟨j,rfl⟩ : ∃ j,m=k+j:=⟨m - k,by omega⟩
  rw [List.take_add,List.flatten_append,List.length_append];omega
 have:=this 8 hk;omega
theorem enc_byt : ∀ t:Tr,WF t → ∀ x∈enc t,0≤x∧x≤255:=by
 intro t
 induction t with
 | uni c=>intro h x hx;rw [enc] at hx;simp at hx;have h:0≤c∧c≤255:=h;rcases hx with rfl | rfl <;> omega
 | brick l => intro h x hx; rw [enc] at hx; have h : l.length = 64 ∧ ∀ x ∈ l, 0 ≤ x ∧ x ≤ 255 := h; rcases List.mem_cons.1 hx with rfl | hx
              · omega
              · exact h.2 x hx
 | node d ch ih =>
   intro h x hx;have h:d≤255 ∧ ∀ i,WF (ch i):=h;rw [enc_node] at hx;rcases List.mem_cons.1 hx with rfl | hx
   · omega
   · rcases List.mem_cons.1 hx with rfl | hx
     · omega
     · obtain ⟨l,hl,hx⟩:=List.mem_flatten.1 hx;obtain ⟨i,rfl⟩:=List.mem_ofFn.1 hl;exact ih i (h.2 i) x hx
def small:Nat→Tr→Prop
 | _,.uni _=>True
 | _,.brick _=>True
 | 0,.node _ _=>False
 | n+1,.node _ ch => ∀ i,small n (ch i)
theorem enc_small : ∀ (n:Nat) (t:Tr),WF t→small n t→(enc t).length≤73 * 8 ^ n - 8:=by
 intro n
 induction n with
 | zero =>
   intro t h hs;cases t with
   | uni c=>simp [enc]
   | brick l=>have h:l.length=64 ∧ ∀ x∈l,0≤x∧x≤255:=h;simp [enc,h.1]
   | node d ch=>exact absurd hs (by simp [small])
 | succ n ih =>
   intro t h hs;have hp:1≤8 ^ n:=Nat.pow_pos (by decide)
   cases t with
   | uni c=>rw [Nat.pow_succ];simp [enc];omega
   | brick l=>have h:l.length=64 ∧ ∀ x∈l,0≤x∧x≤255:=h;rw [Nat.pow_succ];simp [enc,h.1];omega
   | node d ch =>
     have h:d≤255 ∧ ∀ i,WF (ch i):=h;have hk : ∀ i,(enc (ch i)).length≤73 * 8 ^ n - 8:=fun i=>ih (ch i) (h.2 i) (hs i)
     have key : ∀ k,k≤8→pos ch k≤2+k * (73 * 8 ^ n - 8):=by
      intro k
      induction k with
      | zero=>intro _;rw [pos_zero];omega
      | succ k ihk =>
        intro hk8;rw [pos_succ ch (by omega),Nat.succ_mul]
        have h1:=ihk (by omega)
        have h2:=hk ⟨k,by omega⟩
        omega
     have:=key 8 (Nat.le_refl _);rw [pos_all d ch] at this;rw [Nat.pow_succ];omega
end Tr
end Oct
end Go.Proofs.YtgnfgblkpnfcnaaGreatDoor
end
