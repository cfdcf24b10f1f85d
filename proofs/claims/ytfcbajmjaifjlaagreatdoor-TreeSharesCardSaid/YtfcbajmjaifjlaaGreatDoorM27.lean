/- Rps, Rse, Rsf, Rcr, Rtr: joined by program, for one claim. -/
import Derived.Test.YtfcbajmjaifjlaaGreatDoorM26
set_option maxHeartbeats 4000000
set_option maxRecDepth 100000
set_option linter.unusedVariables false
set_option linter.unusedSimpArgs false
namespace Go.Proofs.YtfcbajmjaifjlaaGreatDoor
section
open Go.RowKit Go.Sort Go.Maps
open Oct
structure RpI (w:World) (gv hv ov:Array Value) (n cap g1 go:Nat) (hb:Option Addr) (ys:List Int) (xs:List Int) (wr:World):Prop where
 kg:Bk wr w.heap.size gv 28
 kh:Bk wr (w.heap.size+1) hv 28
 kr:Bk wr (w.heap.size+1+1) #[(0:Int),(0:Int),(0:Int),(0:Int),(0:Int),(0:Int),.slice none 0 0] 28
 ko:Bk wr go ov 28
 own:Own wr (w.heap.size+1+1+1) 3 .i64 (.slice (some ⟨g1,0,none⟩) n cap) xs
 bel:Below w.heap.size w wr
 sl:Sl wr .i64 hb ys
 lt:w.heap.size+1+1<g1∧g1<go
theorem RpI.later {w wr w':World} {gv hv ov:Array Value} {n cap g1 go:Nat} {hb:Option Addr} {ys xs:List Int} (H:RpI w gv hv ov n cap g1 go hb ys xs wr) (h:Below wr.heap.size wr w'):RpI w gv hv ov n cap g1 go hb ys xs w' :=
 ⟨H.kg.later h,H.kh.later h,H.kr.later h,H.ko.later h,H.own.below h,H.bel.trans (h.mono H.bel.size),H.sl.below h,H.lt⟩
theorem RpI.put {w wr:World} {gv hv ov:Array Value} {n cap g1 go:Nat} {hb:Option Addr} {ys xs:List Int} (H:RpI w gv hv ov n cap g1 go hb ys xs wr) (hn:xs.length=n) (h0:0<n) (hf:ys ≠ [] → ∀ b,hb.map (·.block)=some b→b<w.heap.size) (k:Nat) (x:Int):RpI w gv hv ov n cap g1 go hb ys (xs.set k x) (wr.setCell ⟨g1,k,none⟩ (.int .i64 x)):=by
 have hlt:=H.lt;obtain ⟨g',cap',he,-,-,-,-,hst⟩:=H.own.at (by omega)
 rw [hn] at he hst;injection he with h1 h2 h3;injection h1 with h1;injection h1 with h1;subst h1 h3;refine ⟨H.kg.other _ _ (by simp only;omega),H.kh.other _ _ (by simp only;omega),H.kr.other _ _ (by simp only;omega),H.ko.other _ _ (by simp only;omega),hst k x,H.bel.setCell (by simp only;omega) _,?_,hlt⟩
 intro i y hy;obtain ⟨b',off',he,hc⟩:=H.sl i y hy;refine ⟨b',off',he,?_⟩;have:=hf (by rintro rfl;simp at hy) b' (by rw [he];rfl)
 rw [World.cell?_of_block (heap_setCell_other wr _ _ _ (by simp only;omega))];exact hc
def zB2 (b:Box) (zs:List Int) (G:Pt→Int) (inn:Pt→Bool) (k:Nat):List Int:=(List.range zs.length).map fun j:Nat=>if j<k∧inn (atB b (j:Int))=true then G (atB b (j:Int)) else zs.getD j 0
theorem zAN (b:Box) (zs:List Int) (G:Pt→Int) (inn:Pt→Bool) (k:Nat):(zB2 b zs G inn k).length=zs.length:=by simp [zB2]
theorem zBa (b:Box) (zs:List Int) (G:Pt→Int) (inn:Pt→Bool) (k:Nat) {j:Nat} (hj:j<zs.length):(zB2 b zs G inn k)[j]? = some (if j<k∧inn (atB b (j:Int))=true then G (atB b (j:Int)) else zs.getD j 0):=by
 unfold zB2;rw [List.getElem?_map,List.getElem?_range hj];rfl
theorem zIO (b:Box) (zs:List Int) (G:Pt→Int) (inn:Pt→Bool):zB2 b zs G inn 0=zs:=by
 apply List.ext_getElem?;intro i;rcases Nat.lt_or_ge i zs.length with h | h
 · rw [zBa b zs G inn 0 h,if_neg (by omega),List.getD,List.getElem?_eq_getElem h]
   rfl
 · rw [List.getElem?_eq_none (by rw [zAN];exact h),List.getElem?_eq_none h]
theorem zLz (b:Box) (zs:List Int) (G:Pt→Int) (inn:Pt→Bool) {k:Nat} (hk:k<zs.length):(zB2 b zs G inn k)[k]? = some (zs.getD k 0):=by
 rw [zBa b zs G inn k hk,if_neg (by omega)]
theorem zJ6 (b:Box) (zs:List Int) (G:Pt→Int) (inn:Pt→Bool) {k:Nat} (hk:k<zs.length) (hi:inn (atB b (k:Int))=true):(zB2 b zs G inn k).set k (G (atB b (k:Int)))=zB2 b zs G inn (k+1):=by
 apply List.ext_getElem?;intro i;rw [List.getElem?_set];rcases Nat.lt_or_ge i zs.length with h | h
 · rw [zBa b zs G inn k h,zBa b zs G inn (k+1) h];by_cases e:k=i
   · subst e;rw [if_pos rfl,if_pos (by rw [zAN];exact hk),if_pos ⟨Nat.lt_succ_self k,hi⟩]
   · rw [if_neg e];by_cases h2:i<k
     · simp [h2,Nat.lt_succ_of_lt h2]
     · rw [if_neg (fun h=>h2 h.1),if_neg (fun h=>h2 (by omega))]
 · rw [if_neg (by omega),List.getElem?_eq_none (by rw [zAN];exact h),List.getElem?_eq_none (by rw [zAN];exact h)]
theorem zIP (b:Box) (zs:List Int) (G:Pt→Int) (inn:Pt→Bool) {k:Nat} (hi:inn (atB b (k:Int))=false):zB2 b zs G inn k=zB2 b zs G inn (k+1):=by
 unfold zB2;refine List.map_congr_left fun j _=>?_;by_cases e:j=k
 · subst e;rw [if_neg (by omega),if_neg (by rw [hi];simp)]
 · by_cases h2:j<k
   · simp [h2,Nat.lt_succ_of_lt h2]
   · rw [if_neg (fun h=>h2 h.1),if_neg (fun h=>h2 (by omega))]
theorem zJ7 (b:Box) (F G:Pt→Int) (inn:Pt→Bool) {n:Nat} (hn:(zM b F).length=n):zB2 b (zM b F) G inn n=zM b fun p=>if inn p=true then G p else F p:=by
 apply List.ext_getElem?;intro i;rcases Nat.lt_or_ge i n with h | h
 · rw [zBa b _ G inn n (by omega),zAF (by rw [zP] at hn;omega),List.getD,zAF (by rw [zP] at hn;omega)]
   by_cases hi:inn (atB b (i:Int))=true
   · rw [if_pos ⟨h,hi⟩,if_pos hi]
   · rw [if_neg (fun h=>hi h.2),if_neg hi];rfl
 · rw [List.getElem?_eq_none (by rw [zAN];omega),List.getElem?_eq_none (by rw [zP] at hn ⊢; omega)]
theorem zEb (a b c d e f a2 b2 c2 d2 e2 f2:Int) (pb po n hcp:Nat) (hb:Option Addr) (hcp2:Nat) (ys:List Int) (HS:Small ⟨⟨a,b,c⟩,⟨d,e,f⟩⟩ 1048575) (hV:zU ⟨⟨a,b,c⟩,⟨d,e,f⟩⟩=n) (h0:0<n) (hle:n≤5000) (HX:GoodG ⟨⟨a2,b2,c2⟩,⟨d2,e2,f2⟩⟩ ys hcp2) (F0:Pt→Int) (zs:List Int) (hzs:zs=zM ⟨⟨a,b,c⟩,⟨d,e,f⟩⟩ F0) (w:World) (hsl:Sl w .i64 (some ⟨pb,po,none⟩) zs) (hsm:Sl w .i64 hb ys) :
 Calls Tryz.prog 156 #[.agg #[a,b,c,d,e,f,.slice (some ⟨pb,po,none⟩) n hcp],.agg #[a2,b2,c2,d2,e2,f2,.slice hb ys.length hcp2]] w fun e' w' => ∃ g cap,e' = .returned (.agg #[a,b,c,d,e,f,.slice (some ⟨g,0,none⟩) n cap])∧Own w' w.heap.size 3 .i64 (.slice (some ⟨g,0,none⟩) n cap) (zM ⟨⟨a,b,c⟩,⟨d,e,f⟩⟩ fun p=>if inB p ⟨⟨a2,b2,c2⟩,⟨d2,e2,f2⟩⟩=true then zF ⟨⟨a2,b2,c2⟩,⟨d2,e2,f2⟩⟩ ys p else F0 p)∧Below w.heap.size w w':=by
 have hzl:zs.length=n:=by rw [hzs,zP];omega
 have hcpd:=Bx.mk fun W (h:Sl W .i64 (some ⟨pb,po,none⟩) zs)=>zHy a b c d e f pb po hcp n zs hzl h0 hle W h;have hat:=Bx.mk fun W (k:Nat) (hk:k<n)=>zHz a b c d e f (k:Int) HS (by omega) W
 have hin:=Bx.mk fun W (k:Nat)=>zDT (atB ⟨⟨a,b,c⟩,⟨d,e,f⟩⟩ (k:Int)).x (atB ⟨⟨a,b,c⟩,⟨d,e,f⟩⟩ (k:Int)).y (atB ⟨⟨a,b,c⟩,⟨d,e,f⟩⟩ (k:Int)).z a2 b2 c2 d2 e2 f2 W;have hgt:=Bx.mk fun W (k:Nat) (h:Sl W .i64 hb ys)=>zNG a2 b2 c2 d2 e2 f2 (atB ⟨⟨a,b,c⟩,⟨d,e,f⟩⟩ (k:Int)).x (atB ⟨⟨a,b,c⟩,⟨d,e,f⟩⟩ (k:Int)).y (atB ⟨⟨a,b,c⟩,⟨d,e,f⟩⟩ (k:Int)).z hb hcp2 ys HX W h;have hall:=Bx.mk (show zB2 ⟨⟨a,b,c⟩,⟨d,e,f⟩⟩ zs (zF ⟨⟨a2,b2,c2⟩,⟨d2,e2,f2⟩⟩ ys) (fun p=>inB p ⟨⟨a2,b2,c2⟩,⟨d2,e2,f2⟩⟩) n=zM ⟨⟨a,b,c⟩,⟨d,e,f⟩⟩ fun p=>if inB p ⟨⟨a2,b2,c2⟩,⟨d2,e2,f2⟩⟩=true then zF ⟨⟨a2,b2,c2⟩,⟨d2,e2,f2⟩⟩ ys p else F0 p from by rw [hzs];exact zJ7 _ _ _ _ (by rw [←hzs];exact hzl))
 have hset:=Bx.mk fun (k:Nat) (hk:k<n) (hi:inB (atB ⟨⟨a,b,c⟩,⟨d,e,f⟩⟩ (k:Int)) ⟨⟨a2,b2,c2⟩,⟨d2,e2,f2⟩⟩=true)=>zJ6 ⟨⟨a,b,c⟩,⟨d,e,f⟩⟩ zs (zF ⟨⟨a2,b2,c2⟩,⟨d2,e2,f2⟩⟩ ys) (fun p=>inB p ⟨⟨a2,b2,c2⟩,⟨d2,e2,f2⟩⟩) (k:=k) (by omega) hi
 have hstay:=Bx.mk fun (k:Nat) (hi:inB (atB ⟨⟨a,b,c⟩,⟨d,e,f⟩⟩ (k:Int)) ⟨⟨a2,b2,c2⟩,⟨d2,e2,f2⟩⟩=false)=>zIP ⟨⟨a,b,c⟩,⟨d,e,f⟩⟩ zs (zF ⟨⟨a2,b2,c2⟩,⟨d2,e2,f2⟩⟩ ys) (fun p=>inB p ⟨⟨a2,b2,c2⟩,⟨d2,e2,f2⟩⟩) (k:=k) hi;have hlen:=Bx.mk fun (k:Nat)=>(zAN ⟨⟨a,b,c⟩,⟨d,e,f⟩⟩ zs (zF ⟨⟨a2,b2,c2⟩,⟨d2,e2,f2⟩⟩ ys) (fun p=>inB p ⟨⟨a2,b2,c2⟩,⟨d2,e2,f2⟩⟩) k).trans hzl;have hzero:=Bx.mk (zIO ⟨⟨a,b,c⟩,⟨d,e,f⟩⟩ zs (zF ⟨⟨a2,b2,c2⟩,⟨d2,e2,f2⟩⟩ ys) (fun p=>inB p ⟨⟨a2,b2,c2⟩,⟨d2,e2,f2⟩⟩));have hfat:=Bx.mk fun (k:Nat) (hk:k<n)=>zLz ⟨⟨a,b,c⟩,⟨d,e,f⟩⟩ zs (zF ⟨⟨a2,b2,c2⟩,⟨d2,e2,f2⟩⟩ ys) (fun p=>inB p ⟨⟨a2,b2,c2⟩,⟨d2,e2,f2⟩⟩) (k:=k) (by omega)
 have hfar:=Bx.mk (show ys ≠ [] → ∀ b,hb.map (·.block)=some b→b<w.heap.size from fun hx b hb'=>by
  obtain ⟨x,r,rfl⟩:=List.exists_cons_of_ne_nil hx;obtain ⟨b',off,h1,h2⟩:=hsm 0 x rfl;rw [h1] at hb';simp only [Option.map_some,Option.some.injEq] at hb';rw [←hb'];exact World.block_lt_of_cell? w _ h2)
 have Hsl:=Bx.mk hsl;have Hsm:=Bx.mk hsm;clear hsl hsm HS hV HX hzs hzl;go_enter Tryz.func156,Tryz.ntmps156;go_wp2_with fail;generalize hW:World.alloc (World.alloc (World.alloc w _) _) _=W;have hSz:=sz3 hW;have hB:=bl3 hW;have kg:Bk W (w.heap.size) #[a,b,c,d,e,f,.slice (some ⟨pb,po,none⟩) n hcp] 28:=bk2 hW;have kh:Bk W (w.heap.size+1) #[a2,b2,c2,d2,e2,f2,.slice hb ys.length hcp2] 28:=bk1 hW;have kr:Bk W (w.heap.size+1+1) #[(0:Int),(0:Int),(0:Int),(0:Int),(0:Int),(0:Int),.slice none 0 0] 28:=bk0 hW;clear hW;obtain ⟨cg0,cg1,cg2,cg3,cg4,cg5,cg6⟩:=kg.c7;have q0:True:=trivial;refine (hcpd.out _ (Hsl.out.below hB)).mono ?_;rintro _ w1 ⟨g1,cap,rfl,hown,hb1⟩;have hg1:=hown.lt g1 rfl;have hSzW:=hSz;have Hown:=Bx.mk hown;replace hB:=hB.trans (hb1.mono hB.size);replace kg:=kg.later hb1;replace kh:=kh.later hb1;replace kr:=kr.later hb1;replace hSz:=Nat.le_trans hSz hb1.size;clear hb1;clear cg0 cg1 cg2 cg3 cg4 cg5 cg6;clear hown q0;go_wp2_with fail;generalize hW1:World.alloc w1 _=V1;have hb9:=bl1 hW1;have ko:Bk V1 w1.heap.size #[a,b,c,d,e,f,.slice (some ⟨g1,0,none⟩) n cap] 28:=bk0 hW1 rfl
 have HI:Bx (RpI w #[a,b,c,d,e,f,.slice (some ⟨pb,po,none⟩) n hcp] #[a2,b2,c2,d2,e2,f2,.slice hb ys.length hcp2] #[a,b,c,d,e,f,.slice (some ⟨g1,0,none⟩) n cap] n cap g1 w1.heap.size hb ys (zB2 ⟨⟨a,b,c⟩,⟨d,e,f⟩⟩ zs (zF ⟨⟨a2,b2,c2⟩,⟨d2,e2,f2⟩⟩ ys) (fun p=>inB p ⟨⟨a2,b2,c2⟩,⟨d2,e2,f2⟩⟩) 0) V1):=⟨by
  rw [hzero.out];exact ⟨kg.later hb9,kh.later hb9,kr.later hb9,ko,(Hown.out.base (by omega)).below hb9,hB.trans (hb9.mono hB.size),Hsm.out.below (hB.trans (hb9.mono hB.size)),by omega⟩⟩
 clear hW1 hb9 ko kg kh kr hB hSz hSzW Hown hg1 hzero hcpd Hsl;generalize w1.heap.size=go at *
 go_loopw [6] (fun v6 wr => ∃ k:Nat,k≤n∧v6 = .int .i64 k∧Bx (RpI w #[a,b,c,d,e,f,.slice (some ⟨pb,po,none⟩) n hcp] #[a2,b2,c2,d2,e2,f2,.slice hb ys.length hcp2] #[a,b,c,d,e,f,.slice (some ⟨g1,0,none⟩) n cap] n cap g1 go hb ys (zB2 ⟨⟨a,b,c⟩,⟨d,e,f⟩⟩ zs (zF ⟨⟨a2,b2,c2⟩,⟨d2,e2,f2⟩⟩ ys) (fun p=>inB p ⟨⟨a2,b2,c2⟩,⟨d2,e2,f2⟩⟩) k) wr)) (fun i _=>n - (intOf i).toNat)
 case atStart=>exact ⟨0,Nat.zero_le _,rfl,HI⟩
 case round =>
  clear HI;obtain ⟨k,hk,rfl,HI⟩:=hrel;by_cases hlt:k<n
  · have t0:decide ((k:Int)<(n:Int))=true:=by simp;omega
    have z1:=fun W=>hat.out W k hlt;have z2:=fun W=>hin.out W k;have z3:=fun W=>hgt.out W k;have z4:=hset.out k hlt;have z5:=hstay.out k;have z6:=hfat.out k hlt;generalize zF ⟨⟨a2,b2,c2⟩,⟨d2,e2,f2⟩⟩ ys=FF at *;rcases hpt:atB ⟨⟨a,b,c⟩,⟨d,e,f⟩⟩ (k:Int) with ⟨px,py,pz⟩;simp only [hpt] at z1 z2 z3 z4 z5;generalize hfp:FF ⟨px,py,pz⟩=x at *;generalize hib:inB ⟨px,py,pz⟩ ⟨⟨a2,b2,c2⟩,⟨d2,e2,f2⟩⟩=ib at *;have z1:=Bx.mk z1;have z2:=Bx.mk z2;have z3:=Bx.mk z3;have z4:=Bx.mk z4;have z5:=Bx.mk z5;have z6:=Bx.mk z6;clear hpt hfp hib;obtain ⟨cg0,cg1,cg2,cg3,cg4,cg5,cg6⟩:=HI.out.kg.c7;go_wp2_with fail;refine (z1.out _).mono ?_;rintro _ w2 ⟨rfl,hb2⟩;have HI2:=Bx.mk (HI.out.later hb2);have ch0 : ∀ o,(w2.alloc o).cell? ⟨w.heap.size+1,0,none⟩=some (.int .i64 a2):=fun o=>Bk.cell (zB HI2.out.kh) 0 rfl;have ch1 : ∀ o,(w2.alloc o).cell? ⟨w.heap.size+1,1,none⟩=some (.int .i64 b2):=fun o=>Bk.cell (zB HI2.out.kh) 1 rfl;have ch2 : ∀ o,(w2.alloc o).cell? ⟨w.heap.size+1,2,none⟩=some (.int .i64 c2):=fun o=>Bk.cell (zB HI2.out.kh) 2 rfl;have ch3 : ∀ o,(w2.alloc o).cell? ⟨w.heap.size+1,3,none⟩=some (.int .i64 d2):=fun o=>Bk.cell (zB HI2.out.kh) 3 rfl;have ch4 : ∀ o,(w2.alloc o).cell? ⟨w.heap.size+1,4,none⟩=some (.int .i64 e2):=fun o=>Bk.cell (zB HI2.out.kh) 4 rfl;have ch5 : ∀ o,(w2.alloc o).cell? ⟨w.heap.size+1,5,none⟩=some (.int .i64 f2):=fun o=>Bk.cell (zB HI2.out.kh) 5 rfl;clear HI hb2 cg0 cg1 cg2 cg3 cg4 cg5 cg6;go_wp2_with fail;generalize hW3:World.alloc w2 _=V3;have hb3:=bl1 hW3;have kp:Bk V3 w2.heap.size #[px,py,pz] 23:=bk0 hW3 rfl;have HI3:=Bx.mk (HI2.out.later hb3);clear hW3 hb3 ch0 ch1 ch2 ch3 ch4 ch5 HI2;generalize w2.heap.size=gp at *;refine (z2.out _).mono ?_;rintro _ w4 ⟨rfl,hb4⟩;have HI4:=Bx.mk (HI3.out.later hb4);replace kp:=kp.later hb4;clear hb4 HI3;cases ib with
    | false =>
      have HI5:=HI4.out;rw [z5.out rfl] at HI5;have HI6:=Bx.mk HI5;clear HI5;go_wp2_with fail
      go_roundw
      case rel=>exact ⟨k+1,by omega,by go_num,HI6⟩
      case measure=>simp [intOf];omega
    | true =>
      obtain ⟨ch0,ch1,ch2,ch3,ch4,ch5,ch6⟩:=HI4.out.kh.r7;obtain ⟨cp0,cp1,cp2⟩:=kp.r3;have co6 : ∀ dk osk,(grow (redrawn w4 dk) osk).cell? ⟨go,6,none⟩=some (.slice (some ⟨g1,0,none⟩) n cap):=cell_regrown (HI4.out.ko.cell 6 rfl);have q0:=Bx.mk fun dk osk=>Calls.regrown_of (z3.out (grow (redrawn w4 dk) osk) (HI4.out.sl.below (below_regrown w4 dk osk)));have b1:(0:Int)≤(k:Int):=by omega
      have b2:(k:Int)<(n:Int):=by omega
      go_wp2_with fail;refine zA 7 (by kernel_rfl) (by kernel_rfl) ?_
      simp only [List.take_succ_cons,List.take_zero,List.drop_succ_cons,List.drop_zero]
      repeat (first | go_big_quiet_step ((first | with_reducible exact q0.out _ _)) | quiet_step (first | with_reducible exact q0.out _ _))
      refine wpQuiet_nil ?_;rintro _ ⟨⟨dq,osq⟩,rfl⟩;have HI5:=Bx.mk (HI4.out.later (below_regrown w4 dq osq));clear q0 ch0 ch1 ch2 ch3 ch4 ch5 ch6 cp0 cp1 cp2 co6 HI4 kp;generalize grow (redrawn w4 dq) osq=w5 at *;have HL:=Bx.mk (hlen.out k);obtain ⟨g9,cap9,he9,-,-,hc9,hf9,-⟩:=HI5.out.own.at (by rw [HL.out];omega)
      rw [HL.out] at he9;injection he9 with h91 h92 h93;injection h91 with h91;injection h91 with h91;subst h91;have ck:=hc9 k _ z6.out;have fk:=hf9 k;have HI6:=HI5.out.put HL.out h0 hfar.out k x;rw [z4.out (by first | rfl | trivial)] at HI6
      have HI7:=Bx.mk HI6;clear HI6 hc9 hf9 h92 h93;go_wp2_with fail
      go_roundw
      case rel=>exact ⟨k+1,by omega,by go_num,HI7⟩
      case measure=>simp [intOf];omega
  · obtain rfl:k=n:=by omega
    have t0:decide ((k:Int)<(k:Int))=false:=by simp
    have HI2:=HI.out;rw [hall.out] at HI2;have kg:=HI2.kg;have ko:=HI2.ko;have kr:=HI2.kr;have hB:=HI2.bel;have hlo:=HI2.lt;have hO:=HI2.own;clear HI HI2 hall hat hin hgt hset hstay hlen hfat
    have cg6:=kg.cell 6 rfl;obtain ⟨co0,co1,co2,co3,co4,co5,co6⟩:=ko.c7;have cr0:=kr.cell 0 rfl;have fr0:=kr.frozen 0;have cr1:=kr.cell 1 rfl;have fr1:=kr.frozen 1;have cr2:=kr.cell 2 rfl;have fr2:=kr.frozen 2;have cr3:=kr.cell 3 rfl;have fr3:=kr.frozen 3;have cr4:=kr.cell 4 rfl;have fr4:=kr.frozen 4;have cr5:=kr.cell 5 rfl;have fr5:=kr.frozen 5;have cr6:=kr.cell 6 rfl;have fr6:=kr.frozen 6;have kr2:=kr.put7 (.int .i64 a) (.int .i64 b) (.int .i64 c) (.int .i64 d) (.int .i64 e) (.int .i64 f) (.slice (some ⟨g1,0,none⟩) k cap);have hB2:=Bx.mk (zKb hB (show w.heap.size≤w.heap.size+1+1 by omega) (.int .i64 a) (.int .i64 b) (.int .i64 c) (.int .i64 d) (.int .i64 e) (.int .i64 f) (.slice (some ⟨g1,0,none⟩) k cap))
    have hO2:=Bx.mk (((((((hO.setBelow (a:=⟨w.heap.size+1+1,0,none⟩) (by simp only;omega) (.int .i64 a)).setBelow (a:=⟨w.heap.size+1+1,1,none⟩) (by simp only;omega) (.int .i64 b)).setBelow (a:=⟨w.heap.size+1+1,2,none⟩) (by simp only;omega) (.int .i64 c)).setBelow (a:=⟨w.heap.size+1+1,3,none⟩) (by simp only;omega) (.int .i64 d)).setBelow (a:=⟨w.heap.size+1+1,4,none⟩) (by simp only;omega) (.int .i64 e)).setBelow (a:=⟨w.heap.size+1+1,5,none⟩) (by simp only;omega) (.int .i64 f)).setBelow (a:=⟨w.heap.size+1+1,6,none⟩) (by simp only;omega) (.slice (some ⟨g1,0,none⟩) k cap))
    clear hB hO;go_wp2_with fail;exact bodyPost_ret (v:=.agg #[a,b,c,d,e,f,.slice (some ⟨g1,0,none⟩) k cap]) (results_cell_row rfl _ _ _ 28 #[a,b,c,d,e,f,.slice (some ⟨g1,0,none⟩) k cap] (0,0) _ rfl kr2 Tryz.underlying28 rfl (by kernel_rfl)) rfl ⟨g1,cap,rfl,hO2.out.base (by omega),hB2.out⟩
theorem zJR (a b c d e f a2 b2 c2 d2 e2 f2:Int) (pb po n hcp:Nat) (hb:Option Addr) (hcp2:Nat) (ys:List Int) (HS:Small ⟨⟨a,b,c⟩,⟨d,e,f⟩⟩ 1048575) (hV:zU ⟨⟨a,b,c⟩,⟨d,e,f⟩⟩=n) (h0:0<n) (hle:n≤5000) (HX:GoodG ⟨⟨a2,b2,c2⟩,⟨d2,e2,f2⟩⟩ ys hcp2) (w:World) (hsl:Sl w .i64 (some ⟨pb,po,none⟩) (List.replicate n 0)) (hsm:Sl w .i64 hb ys) :
 Calls Tryz.prog 156 #[.agg #[a,b,c,d,e,f,.slice (some ⟨pb,po,none⟩) n hcp],.agg #[a2,b2,c2,d2,e2,f2,.slice hb ys.length hcp2]] w fun e' w' => ∃ g cap,e' = .returned (.agg #[a,b,c,d,e,f,.slice (some ⟨g,0,none⟩) n cap])∧Own w' w.heap.size 3 .i64 (.slice (some ⟨g,0,none⟩) n cap) (zM ⟨⟨a,b,c⟩,⟨d,e,f⟩⟩ (zF ⟨⟨a2,b2,c2⟩,⟨d2,e2,f2⟩⟩ ys))∧Below w.heap.size w w':=by
 have hz:List.replicate n (0:Int)=zM ⟨⟨a,b,c⟩,⟨d,e,f⟩⟩ fun _=>0:=by
  unfold zM;rw [hV,List.map_const',List.length_range];rfl
 have h:=zEb a b c d e f a2 b2 c2 d2 e2 f2 pb po n hcp hb hcp2 ys HS hV h0 hle HX (fun _=>0) _ hz w hsl hsm
 have he:(zM ⟨⟨a,b,c⟩,⟨d,e,f⟩⟩ fun p=>if inB p ⟨⟨a2,b2,c2⟩,⟨d2,e2,f2⟩⟩=true then zF ⟨⟨a2,b2,c2⟩,⟨d2,e2,f2⟩⟩ ys p else 0)=zM ⟨⟨a,b,c⟩,⟨d,e,f⟩⟩ (zF ⟨⟨a2,b2,c2⟩,⟨d2,e2,f2⟩⟩ ys):=zf fun p _=>by
  unfold zF;split <;> rfl
 rw [he] at h;exact h
theorem zJF (f:Pt→Int) : ∀ (n:Nat) (a:Pt),Tr.small n (Tr.can f n a):=by
 have inn : ∀ (n d:Nat) (ch:Fin 8→Tr),(∀ i,Tr.small n (ch i))→Tr.small (n+1) (Tr.mkInner d ch):=by
  intro n d ch h;unfold Tr.mkInner;split
  · rename_i hc;obtain ⟨c,hc⟩:=hc.1;rw [hc];simp [Tr.small]
  · exact h
 intro n
 induction n with
 | zero =>
   intro a;unfold Tr.can Tr.mkBrick;split <;> simp [Tr.small]
 | succ n ih =>
   intro a;unfold Tr.can;exact inn n _ _ (fun i=>ih _)
theorem zML {f:Pt→Int} (hf : ∀ p,0≤f p∧f p≤255) {n:Nat} (hn:n≤12) (a:Pt):(Tr.enc (Tr.can f n a)).length≤100000000000000:=by
 have h:=Tr.enc_small n _ (zAm hf n a (by omega)) (zJF f n a)
 have:8 ^ n≤8 ^ 12:=Nat.pow_le_pow_right (by decide) hn
 omega
def zDo (f:Pt→Int) (a:Pt):List Int:=(List.range 64).map fun k=>f (Tr.cellAt a k)
theorem zIh (f:Pt→Int) (a:Pt):(zDo f a).length=64:=by simp [zDo]
theorem zIi {f:Pt→Int} (hf : ∀ p,0≤f p∧f p≤255) (a:Pt):(zDo f a).all Pal.cell=true:=by
 rw [List.all_eq_true];intro x hx;obtain ⟨k,_,rfl⟩:=List.mem_map.1 hx;rw [Pal.cell_eq];simpa using hf _
theorem zKX (f:Pt→Int) (a:Pt):Tr.can f 0 a=Tr.mkBrick (zDo f a):=rfl
theorem zIa (L:Nat) (hL:L≤14) (w:World) :
 Calls Tryz.prog 59 #[.agg #[(0:Int),(0:Int),(0:Int)],(L:Int)] w fun e w'=>e = .returned (.agg #[(0:Int),(0:Int),(0:Int),.int .i64 (2 ^ L),.int .i64 (2 ^ L),.int .i64 (2 ^ L)])∧Below w.heap.size w w':=by
 have h:=zDk 0 0 0 L hL (by omega) (by omega) (by omega) w
 simpa only [Int.zero_add] using h
theorem zLQ (a b c d e f a2 b2 c2 d2 e2 f2:Int) (n:Nat) (hb:Option Addr) (hcp2:Nat) (ys:List Int) (hok:okB ⟨⟨a,b,c⟩,⟨d,e,f⟩⟩=true) (he:zG ⟨⟨a,b,c⟩,⟨d,e,f⟩⟩=false) (hV:zU ⟨⟨a,b,c⟩,⟨d,e,f⟩⟩=n) (hle:n≤5000) (HX:GoodG ⟨⟨a2,b2,c2⟩,⟨d2,e2,f2⟩⟩ ys hcp2) (w:World) (hsm:Sl w .i64 hb ys) :
 Calls Tryz.prog 129 #[.agg #[a2,b2,c2,d2,e2,f2,.slice hb ys.length hcp2],.agg #[a,b,c,d,e,f]] w fun e' w' => ∃ g cap,e' = .returned (.tuple #[.agg #[a,b,c,d,e,f,.slice (some ⟨g,0,none⟩) n cap],(0:Int)])∧Sl w' .i64 (some ⟨g,0,none⟩) (zM ⟨⟨a,b,c⟩,⟨d,e,f⟩⟩ (zF ⟨⟨a2,b2,c2⟩,⟨d2,e2,f2⟩⟩ ys))∧Below w.heap.size w w':=by
 have hnew:=Bx.mk fun W=>zNF a b c d e f hok he n hV hle W;have hpos:0<n:=by have:=zB4 he;omega
 have hpas:=Bx.mk fun (pb po cap:Nat) W (h:Sl W .i64 (some ⟨pb,po,none⟩) (List.replicate n 0)) (h':Sl W .i64 hb ys)=>zJR a b c d e f a2 b2 c2 d2 e2 f2 pb po n cap hb hcp2 ys (zAS hok) hV hpos hle HX W h h';have Hsm:=Bx.mk hsm;clear hok he hV HX hsm;generalize zM ⟨⟨a,b,c⟩,⟨d,e,f⟩⟩ (zF ⟨⟨a2,b2,c2⟩,⟨d2,e2,f2⟩⟩ ys)=zs at *;go_enter Tryz.func129,Tryz.ntmps129;go_wp2_with fail;generalize hW:World.alloc (World.alloc (World.alloc w _) _) _=W;have hSz:=sz3 hW;have hB:=bl3 hW;have kg:Bk W (w.heap.size) #[a2,b2,c2,d2,e2,f2,.slice hb ys.length hcp2] 28:=bk2 hW;have kc:Bk W (w.heap.size+1) #[a,b,c,d,e,f] 25:=bk1 hW;have kr:Bk W (w.heap.size+1+1) #[(0:Int),(0:Int),(0:Int),(0:Int),(0:Int),(0:Int),.slice none 0 0] 28:=bk0 hW;clear hW;obtain ⟨cc0,cc1,cc2,cc3,cc4,cc5⟩:=kc.c6;go_wp2_with fail;refine (hnew.out _).mono ?_;rintro _ w1 ⟨g1,cap,rfl,hown,hb1⟩;have Hz:=Bx.mk hown.sl;replace hB:=hB.trans (hb1.mono hB.size);replace kg:=kg.later hb1;replace kc:=kc.later hb1;replace kr:=kr.later hb1;replace hSz:=Nat.le_trans hSz hb1.size;clear hb1;clear cc0 cc1 cc2 cc3 cc4 cc5;clear hown;have cg0 : ∀ o,(w1.alloc o).cell? ⟨w.heap.size,0,none⟩=some (.int .i64 a2):=fun o=>Bk.cell (zB kg) 0 rfl;have cg1 : ∀ o,(w1.alloc o).cell? ⟨w.heap.size,1,none⟩=some (.int .i64 b2):=fun o=>Bk.cell (zB kg) 1 rfl;have cg2 : ∀ o,(w1.alloc o).cell? ⟨w.heap.size,2,none⟩=some (.int .i64 c2):=fun o=>Bk.cell (zB kg) 2 rfl;have cg3 : ∀ o,(w1.alloc o).cell? ⟨w.heap.size,3,none⟩=some (.int .i64 d2):=fun o=>Bk.cell (zB kg) 3 rfl;have cg4 : ∀ o,(w1.alloc o).cell? ⟨w.heap.size,4,none⟩=some (.int .i64 e2):=fun o=>Bk.cell (zB kg) 4 rfl;have cg5 : ∀ o,(w1.alloc o).cell? ⟨w.heap.size,5,none⟩=some (.int .i64 f2):=fun o=>Bk.cell (zB kg) 5 rfl;have cg6 : ∀ o,(w1.alloc o).cell? ⟨w.heap.size,6,none⟩=some (.slice hb ys.length hcp2):=fun o=>Bk.cell (zB kg) 6 rfl;go_wp2_with fail;generalize hW3:World.alloc w1 _=V3;have hb3:=bl1 hW3;have Hz3:=Bx.mk (Hz.out.below hb3);replace hB:=hB.trans (hb3.mono hB.size);replace kg:=kg.later hb3;replace kc:=kc.later hb3;replace kr:=kr.later hb3;replace hSz:=Nat.le_trans hSz hb3.size;clear hb3;clear hW3 cg0 cg1 cg2 cg3 cg4 cg5 cg6 Hz;refine (hpas.out _ _ _ _ Hz3.out (Hsm.out.below hB)).mono ?_;rintro _ w4 ⟨g2,cap2,rfl,hown,hb4⟩;have hg2:=hown.lt g2 rfl;have Hz4:=Bx.mk hown.sl;have hSz4:=hSz;replace hB:=hB.trans (hb4.mono hB.size);replace kg:=kg.later hb4;replace kc:=kc.later hb4;replace kr:=kr.later hb4;replace hSz:=Nat.le_trans hSz hb4.size;clear hb4;obtain ⟨cr0,cr1,cr2,cr3,cr4,cr5,cr6⟩:=kr.c7;obtain ⟨fr0,fr1,fr2,fr3,fr4,fr5,fr6⟩:=kr.f7;clear hown Hz3;go_wp2_with fail;have kr2:=kr.put7 (.int .i64 a) (.int .i64 b) (.int .i64 c) (.int .i64 d) (.int .i64 e) (.int .i64 f) (.slice (some ⟨g2,0,none⟩) n cap2);have hB2:=Bx.mk (zKb hB (show w.heap.size≤w.heap.size+1+1 by omega) (.int .i64 a) (.int .i64 b) (.int .i64 c) (.int .i64 d) (.int .i64 e) (.int .i64 f) (.slice (some ⟨g2,0,none⟩) n cap2))
 have hS2:=Bx.mk (zM6 Hz4.out (show g2 ≠ w.heap.size+1+1 by omega) (.int .i64 a) (.int .i64 b) (.int .i64 c) (.int .i64 d) (.int .i64 e) (.int .i64 f) (.slice (some ⟨g2,0,none⟩) n cap2))
 obtain ⟨z0,z1,z2,z3,z4,z5,z6⟩:=kr2.c7;exact bodyPost_ret (v:=.tuple #[.agg #[a,b,c,d,e,f,.slice (some ⟨g2,0,none⟩) n cap2],(0:Int)]) (by simp [results,Tryz.results129,go_sem,z0,z1,z2,z3,z4,z5,z6]) rfl ⟨g2,cap2,rfl,hS2.out,hB2.out⟩
end
section
open Go.RowKit Go.Sort Go.Maps
open Oct
attribute [local go_sem ↓] Go.wp_at_zero Go.wp_at_succ
theorem zEB (a b c d e f:Int) (ha:Option Addr) (hcp:Nat) (xs:List Int) (ax ay az dd m:Int) (hcub:Bx (∀ W,Calls Tryz.prog 59 #[.agg #[ax,ay,az],dd] W fun e w'=>e = .returned (.agg #[ax,ay,az,.int .i64 (ax+m),.int .i64 (ay+m),.int .i64 (az+m)])∧Below W.heap.size W w')) (hem:zG (zD ⟨⟨ax,ay,az⟩,⟨ax+m,ay+m,az+m⟩⟩ ⟨⟨a,b,c⟩,⟨d,e,f⟩⟩)=true) (w:World) :
 Calls Tryz.prog 85 #[.agg #[a,b,c,d,e,f,.slice ha xs.length hcp],.agg #[ax,ay,az],.int .i64 (dd)] w fun e' w'=>e' = .returned (.string (strOfNums (Tr.enc (.uni 0))))∧Below w.heap.size w w':=by
 have hmee:=Bx.mk fun W=>zC9 ax ay az (ax+m) (ay+m) (az+m) a b c d e f W;have hemp:=Bx.mk fun W=>zAp (zD ⟨⟨ax,ay,az⟩,⟨ax+m,ay+m,az+m⟩⟩ ⟨⟨a,b,c⟩,⟨d,e,f⟩⟩).lo.x (zD ⟨⟨ax,ay,az⟩,⟨ax+m,ay+m,az+m⟩⟩ ⟨⟨a,b,c⟩,⟨d,e,f⟩⟩).lo.y (zD ⟨⟨ax,ay,az⟩,⟨ax+m,ay+m,az+m⟩⟩ ⟨⟨a,b,c⟩,⟨d,e,f⟩⟩).lo.z (zD ⟨⟨ax,ay,az⟩,⟨ax+m,ay+m,az+m⟩⟩ ⟨⟨a,b,c⟩,⟨d,e,f⟩⟩).hi.x (zD ⟨⟨ax,ay,az⟩,⟨ax+m,ay+m,az+m⟩⟩ ⟨⟨a,b,c⟩,⟨d,e,f⟩⟩).hi.y (zD ⟨⟨ax,ay,az⟩,⟨ax+m,ay+m,az+m⟩⟩ ⟨⟨a,b,c⟩,⟨d,e,f⟩⟩).hi.z W;rw [show zG (⟨⟨(zD ⟨⟨ax,ay,az⟩,⟨ax+m,ay+m,az+m⟩⟩ ⟨⟨a,b,c⟩,⟨d,e,f⟩⟩).lo.x,(zD ⟨⟨ax,ay,az⟩,⟨ax+m,ay+m,az+m⟩⟩ ⟨⟨a,b,c⟩,⟨d,e,f⟩⟩).lo.y,(zD ⟨⟨ax,ay,az⟩,⟨ax+m,ay+m,az+m⟩⟩ ⟨⟨a,b,c⟩,⟨d,e,f⟩⟩).lo.z⟩,⟨(zD ⟨⟨ax,ay,az⟩,⟨ax+m,ay+m,az+m⟩⟩ ⟨⟨a,b,c⟩,⟨d,e,f⟩⟩).hi.x,(zD ⟨⟨ax,ay,az⟩,⟨ax+m,ay+m,az+m⟩⟩ ⟨⟨a,b,c⟩,⟨d,e,f⟩⟩).hi.y,(zD ⟨⟨ax,ay,az⟩,⟨ax+m,ay+m,az+m⟩⟩ ⟨⟨a,b,c⟩,⟨d,e,f⟩⟩).hi.z⟩⟩:Box)=true from hem] at hemp;generalize (zD ⟨⟨ax,ay,az⟩,⟨ax+m,ay+m,az+m⟩⟩ ⟨⟨a,b,c⟩,⟨d,e,f⟩⟩)=M at *;clear hem;obtain ⟨⟨m0,m1,m2⟩,⟨m3,m4,m5⟩⟩:=M;have hun:=Bx.mk fun W=>zCw 0 (by decide) W
 generalize strOfNums (Tr.enc (.uni 0))=S at *;go_enter Tryz.func85,Tryz.ntmps85;go_wp2_with fail;generalize hW:World.alloc (World.alloc w _) _=W;have hSz:=sz2 hW;have hB:=bl2 hW;have kg:Bk W (w.heap.size) #[a,b,c,d,e,f,.slice ha xs.length hcp] 28:=bk1 hW;have kp:Bk W (w.heap.size+1) #[ax,ay,az] 23:=bk0 hW;clear hW;obtain ⟨cp0,cp1,cp2⟩:=kp.c3;go_wp2_with fail;refine (hcub.out _).mono ?_;rintro _ w1 ⟨rfl,hb1⟩;replace hB:=hB.trans (hb1.mono hB.size);replace kg:=kg.later hb1;replace kp:=kp.later hb1;replace hSz:=Nat.le_trans hSz hb1.size;clear hb1;clear cp0 cp1 cp2;have n0 : ∀ o,(w1.alloc o).cell? ⟨w.heap.size,0,none⟩=some (.int .i64 a):=fun o=>Bk.cell (zB kg) 0 rfl;have n1 : ∀ o,(w1.alloc o).cell? ⟨w.heap.size,1,none⟩=some (.int .i64 b):=fun o=>Bk.cell (zB kg) 1 rfl;have n2 : ∀ o,(w1.alloc o).cell? ⟨w.heap.size,2,none⟩=some (.int .i64 c):=fun o=>Bk.cell (zB kg) 2 rfl;have n3 : ∀ o,(w1.alloc o).cell? ⟨w.heap.size,3,none⟩=some (.int .i64 d):=fun o=>Bk.cell (zB kg) 3 rfl;have n4 : ∀ o,(w1.alloc o).cell? ⟨w.heap.size,4,none⟩=some (.int .i64 e):=fun o=>Bk.cell (zB kg) 4 rfl;have n5 : ∀ o,(w1.alloc o).cell? ⟨w.heap.size,5,none⟩=some (.int .i64 f):=fun o=>Bk.cell (zB kg) 5 rfl;go_wp2_with fail;generalize hW2:World.alloc w1 _=V2;have hb2:=bl1 hW2;have kc:Bk V2 w1.heap.size #[ax,ay,az,.int .i64 (ax+m),.int .i64 (ay+m),.int .i64 (az+m)] 25:=bk0 hW2 rfl;replace hB:=hB.trans (hb2.mono hB.size);replace kg:=kg.later hb2;replace kp:=kp.later hb2;replace hSz:=Nat.le_trans hSz hb2.size;clear hb2;clear hW2 n0 n1 n2 n3 n4 n5;generalize w1.heap.size=gc at *;refine (hmee.out _).mono ?_;rintro _ w3 ⟨rfl,hb3⟩;replace hB:=hB.trans (hb3.mono hB.size);replace kg:=kg.later hb3;replace kp:=kp.later hb3;replace kc:=kc.later hb3;replace hSz:=Nat.le_trans hSz hb3.size;clear hb3;go_wp2_with fail;refine (hemp.out _).mono ?_;rintro _ w4 ⟨rfl,hb4⟩;replace hB:=hB.trans (hb4.mono hB.size);replace kg:=kg.later hb4;replace kp:=kp.later hb4;replace kc:=kc.later hb4;replace hSz:=Nat.le_trans hSz hb4.size;clear hb4;clear hcub hmee hemp;go_wp2_with fail;refine (hun.out _).mono ?_;rintro _ w5 ⟨rfl,hb5⟩;replace hB:=hB.trans (hb5.mono hB.size);clear hb5;go_wp2_with fail;go_ret;exact ⟨rfl,hB⟩
theorem zI1 (a b c d e f:Int) (ha:Option Addr) (hcp:Nat) (xs:List Int) (HX:GoodG ⟨⟨a,b,c⟩,⟨d,e,f⟩⟩ xs hcp) (ax ay az m:Int) (hm:m=4) (hx:0≤ax∧ax≤16384) (hy:0≤ay∧ay≤16384) (hz:0≤az∧az≤16384) (hcub:Bx (∀ W,Calls Tryz.prog 59 #[.agg #[ax,ay,az],(2:Int)] W fun e w'=>e = .returned (.agg #[ax,ay,az,.int .i64 (ax+m),.int .i64 (ay+m),.int .i64 (az+m)])∧Below W.heap.size W w')) (hem:zG (zD ⟨⟨ax,ay,az⟩,⟨ax+m,ay+m,az+m⟩⟩ ⟨⟨a,b,c⟩,⟨d,e,f⟩⟩)=false) (w:World) (hsl:Sl w .i64 ha xs) :
 Calls Tryz.prog 85 #[.agg #[a,b,c,d,e,f,.slice ha xs.length hcp],.agg #[ax,ay,az],.int .i64 (2)] w fun e' w'=>e' = .returned (.string (strOfNums (Tr.enc (Tr.can (zF ⟨⟨a,b,c⟩,⟨d,e,f⟩⟩ xs) 0 ⟨ax,ay,az⟩))))∧Below w.heap.size w w':=by
 have hmee:=Bx.mk fun W=>zC9 ax ay az (ax+m) (ay+m) (az+m) a b c d e f W;have hemp:=Bx.mk fun W=>zAp (zD ⟨⟨ax,ay,az⟩,⟨ax+m,ay+m,az+m⟩⟩ ⟨⟨a,b,c⟩,⟨d,e,f⟩⟩).lo.x (zD ⟨⟨ax,ay,az⟩,⟨ax+m,ay+m,az+m⟩⟩ ⟨⟨a,b,c⟩,⟨d,e,f⟩⟩).lo.y (zD ⟨⟨ax,ay,az⟩,⟨ax+m,ay+m,az+m⟩⟩ ⟨⟨a,b,c⟩,⟨d,e,f⟩⟩).lo.z (zD ⟨⟨ax,ay,az⟩,⟨ax+m,ay+m,az+m⟩⟩ ⟨⟨a,b,c⟩,⟨d,e,f⟩⟩).hi.x (zD ⟨⟨ax,ay,az⟩,⟨ax+m,ay+m,az+m⟩⟩ ⟨⟨a,b,c⟩,⟨d,e,f⟩⟩).hi.y (zD ⟨⟨ax,ay,az⟩,⟨ax+m,ay+m,az+m⟩⟩ ⟨⟨a,b,c⟩,⟨d,e,f⟩⟩).hi.z W;rw [show zG (⟨⟨(zD ⟨⟨ax,ay,az⟩,⟨ax+m,ay+m,az+m⟩⟩ ⟨⟨a,b,c⟩,⟨d,e,f⟩⟩).lo.x,(zD ⟨⟨ax,ay,az⟩,⟨ax+m,ay+m,az+m⟩⟩ ⟨⟨a,b,c⟩,⟨d,e,f⟩⟩).lo.y,(zD ⟨⟨ax,ay,az⟩,⟨ax+m,ay+m,az+m⟩⟩ ⟨⟨a,b,c⟩,⟨d,e,f⟩⟩).lo.z⟩,⟨(zD ⟨⟨ax,ay,az⟩,⟨ax+m,ay+m,az+m⟩⟩ ⟨⟨a,b,c⟩,⟨d,e,f⟩⟩).hi.x,(zD ⟨⟨ax,ay,az⟩,⟨ax+m,ay+m,az+m⟩⟩ ⟨⟨a,b,c⟩,⟨d,e,f⟩⟩).hi.y,(zD ⟨⟨ax,ay,az⟩,⟨ax+m,ay+m,az+m⟩⟩ ⟨⟨a,b,c⟩,⟨d,e,f⟩⟩).hi.z⟩⟩:Box)=false from hem] at hemp;generalize (zD ⟨⟨ax,ay,az⟩,⟨ax+m,ay+m,az+m⟩⟩ ⟨⟨a,b,c⟩,⟨d,e,f⟩⟩)=M at *;clear hem;obtain ⟨⟨m0,m1,m2⟩,⟨m3,m4,m5⟩⟩:=M;have h4:=zIb ax ay az;rw [←hm] at h4
 have hok:okB ⟨⟨ax,ay,az⟩,⟨ax+m,ay+m,az+m⟩⟩=true:=by
  simp only [okB,Bool.and_eq_true,zDY];omega
 have hcr:=Bx.mk fun W (h:Sl W .i64 ha xs)=>zLQ ax ay az (ax+m) (ay+m) (az+m) a b c d e f 64 ha hcp xs hok h4.1 h4.2.2 (by omega) HX W h
 have hcc:=zCo ax ay az (zF ⟨⟨a,b,c⟩,⟨d,e,f⟩⟩ xs);rw [←hm] at hcc;rw [hcc] at hcr;have hbr:=Bx.mk fun (pa:Option Addr) (pc:Nat) W (h:Sl W .i64 pa (zDo (zF ⟨⟨a,b,c⟩,⟨d,e,f⟩⟩ xs) ⟨ax,ay,az⟩))=>zH1 pa pc _ W (zIh _ _) (zIi HX.range _) h;rw [←zKX] at hbr;replace hcr:Bx (∀ W,Sl W .i64 ha xs→Calls Tryz.prog 129 #[.agg #[a,b,c,d,e,f,.slice ha xs.length hcp],.agg #[ax,ay,az,.int .i64 (ax+m),.int .i64 (ay+m),.int .i64 (az+m)]] W fun e' w' => ∃ g cap,e' = .returned (.tuple #[.agg #[ax,ay,az,.int .i64 (ax+m),.int .i64 (ay+m),.int .i64 (az+m),.slice (some ⟨g,0,none⟩) 64 cap],(0:Int)])∧Sl w' .i64 (some ⟨g,0,none⟩) (zDo (zF ⟨⟨a,b,c⟩,⟨d,e,f⟩⟩ xs) ⟨ax,ay,az⟩)∧Below W.heap.size W w'):=hcr;have Hsl:=Bx.mk hsl;clear hsl hok hcc h4 HX hx hy hz hm;generalize strOfNums (Tr.enc (Tr.can (zF ⟨⟨a,b,c⟩,⟨d,e,f⟩⟩ xs) 0 ⟨ax,ay,az⟩))=S at *;generalize zDo (zF ⟨⟨a,b,c⟩,⟨d,e,f⟩⟩ xs) ⟨ax,ay,az⟩=zs at *;go_enter Tryz.func85,Tryz.ntmps85;go_wp2_with fail;generalize hW:World.alloc (World.alloc w _) _=W;have hSz:=sz2 hW;have hB:=bl2 hW;have kg:Bk W (w.heap.size) #[a,b,c,d,e,f,.slice ha xs.length hcp] 28:=bk1 hW;have kp:Bk W (w.heap.size+1) #[ax,ay,az] 23:=bk0 hW;clear hW;obtain ⟨cp0,cp1,cp2⟩:=kp.c3;go_wp2_with fail;refine (hcub.out _).mono ?_;rintro _ w1 ⟨rfl,hb1⟩;replace hB:=hB.trans (hb1.mono hB.size);replace kg:=kg.later hb1;replace kp:=kp.later hb1;replace hSz:=Nat.le_trans hSz hb1.size;clear hb1;clear cp0 cp1 cp2;have n0 : ∀ o,(w1.alloc o).cell? ⟨w.heap.size,0,none⟩=some (.int .i64 a):=fun o=>Bk.cell (zB kg) 0 rfl;have n1 : ∀ o,(w1.alloc o).cell? ⟨w.heap.size,1,none⟩=some (.int .i64 b):=fun o=>Bk.cell (zB kg) 1 rfl;have n2 : ∀ o,(w1.alloc o).cell? ⟨w.heap.size,2,none⟩=some (.int .i64 c):=fun o=>Bk.cell (zB kg) 2 rfl;have n3 : ∀ o,(w1.alloc o).cell? ⟨w.heap.size,3,none⟩=some (.int .i64 d):=fun o=>Bk.cell (zB kg) 3 rfl;have n4 : ∀ o,(w1.alloc o).cell? ⟨w.heap.size,4,none⟩=some (.int .i64 e):=fun o=>Bk.cell (zB kg) 4 rfl;have n5 : ∀ o,(w1.alloc o).cell? ⟨w.heap.size,5,none⟩=some (.int .i64 f):=fun o=>Bk.cell (zB kg) 5 rfl;go_wp2_with fail;generalize hW2:World.alloc w1 _=V2;have hb2:=bl1 hW2;have kc:Bk V2 w1.heap.size #[ax,ay,az,.int .i64 (ax+m),.int .i64 (ay+m),.int .i64 (az+m)] 25:=bk0 hW2 rfl;replace hB:=hB.trans (hb2.mono hB.size);replace kg:=kg.later hb2;replace kp:=kp.later hb2;replace hSz:=Nat.le_trans hSz hb2.size;clear hb2;clear hW2 n0 n1 n2 n3 n4 n5;generalize w1.heap.size=gc at *;refine (hmee.out _).mono ?_;rintro _ w3 ⟨rfl,hb3⟩;replace hB:=hB.trans (hb3.mono hB.size);replace kg:=kg.later hb3;replace kp:=kp.later hb3;replace kc:=kc.later hb3;replace hSz:=Nat.le_trans hSz hb3.size;clear hb3;go_wp2_with fail;refine (hemp.out _).mono ?_;rintro _ w4 ⟨rfl,hb4⟩;replace hB:=hB.trans (hb4.mono hB.size);replace kg:=kg.later hb4;replace kp:=kp.later hb4;replace kc:=kc.later hb4;replace hSz:=Nat.le_trans hSz hb4.size;clear hb4;clear hcub hmee hemp;obtain ⟨cg0,cg1,cg2,cg3,cg4,cg5,cg6⟩:=kg.c7;obtain ⟨cc0,cc1,cc2,cc3,cc4,cc5⟩:=kc.c6;go_wp2_with fail;refine (hcr.out _ (Hsl.out.below hB)).mono ?_;rintro _ w5 ⟨g,cap,rfl,hz5,hb5⟩;clear cg0 cg1 cg2 cg3 cg4 cg5 cg6 cc0 cc1 cc2 cc3 cc4 cc5;replace hB:=hB.trans (hb5.mono hB.size);have Hz5:=Bx.mk hz5;clear hb5 hcr hz5;go_wp2_with fail;generalize hW6:World.alloc w5 _=V6;have hb6:=bl1 hW6;have Hz6:=Bx.mk (Hz5.out.below hb6);replace hB:=hB.trans (hb6.mono hB.size);clear hW6 hb6 Hz5;refine (hbr.out _ _ _ Hz6.out).mono ?_;rintro _ w7 ⟨rfl,hb7⟩;replace hB:=hB.trans (hb7.mono hB.size);clear hb7 Hz6;go_wp2_with fail;go_ret;exact ⟨rfl,hB⟩
theorem zLa (w:World) (s:ByteArray) : ∀ j u,[Value.string s][j]? = some u→(w.alloc (.cells #[.string s] 9)).cell? ((⟨w.heap.size,0,none⟩:Addr).add j)=some u:=by
 intro j u hu
 match j with
 | 0=>simp at hu;subst hu;simp [Addr.add]
 | j+1=>simp at hu
theorem zJc {s:ByteArray} : ∀ u∈[Value.string s],u.oneCell'=true:=by
 intro u hu;rw [List.mem_singleton] at hu;subst hu;rfl
structure TrI (w:World) (gv pv:Array Value) (ha:Option Addr) (xs:List Int) (v:Value) (vs:List Value) (wr:World):Prop where
 kg:Bk wr w.heap.size gv 28
 kp:Bk wr (w.heap.size+1) pv 23
 own:Ownv wr (w.heap.size+1+1) 9 v vs
 bel:Below w.heap.size w wr
 sl:Sl wr .i64 ha xs
theorem TrI.later {w wr w':World} {gv pv:Array Value} {ha:Option Addr} {xs:List Int} {v:Value} {vs:List Value} (H:TrI w gv pv ha xs v vs wr) (h:Below wr.heap.size wr w'):TrI w gv pv ha xs v vs w' :=
 ⟨H.kg.later h,H.kp.later h,H.own.below h,H.bel.trans (h.mono H.bel.size),H.sl.below h⟩
theorem zI0 (a b c d e f:Int) (ha:Option Addr) (hcp:Nat) (xs:List Int) (n:Nat) (hn:n≤11) (F:Pt→Int) (hF : ∀ p,0≤F p∧F p≤255) (ax ay az m:Int) (hx:0≤ax∧ax≤16384) (hy:0≤ay∧ay≤16384) (hz:0≤az∧az≤16384) (hcub:Bx (∀ W,Calls Tryz.prog 59 #[.agg #[ax,ay,az],.int .i64 ((n:Int)+3)] W fun e w'=>e = .returned (.agg #[ax,ay,az,.int .i64 (ax+m),.int .i64 (ay+m),.int .i64 (az+m)])∧Below W.heap.size W w')) (hem:zG (zD ⟨⟨ax,ay,az⟩,⟨ax+m,ay+m,az+m⟩⟩ ⟨⟨a,b,c⟩,⟨d,e,f⟩⟩)=false)
 (hih:Bx (∀ (k:Nat),k<8 → ∀ W,Sl W .i64 ha xs→Calls Tryz.prog 85 #[.agg #[a,b,c,d,e,f,.slice ha xs.length hcp],.agg #[.int .i64 (ax+chX k (2 ^ (n+2))),.int .i64 (ay+chY k (2 ^ (n+2))),.int .i64 (az+chZ k (2 ^ (n+2)))],.int .i64 ((n:Int)+2)] W fun e' w'=>e' = .returned (.string (strOfNums (Tr.enc (Tr.can F n (Tr.cor ⟨ax,ay,az⟩ n k)))))∧Below W.heap.size W w')) (w:World) (hsl:Sl w .i64 ha xs) :
 Calls Tryz.prog 85 #[.agg #[a,b,c,d,e,f,.slice ha xs.length hcp],.agg #[ax,ay,az],.int .i64 ((n:Int)+3)] w fun e' w'=>e' = .returned (.string (strOfNums (Tr.enc (Tr.can F (n+1) ⟨ax,ay,az⟩))))∧Below w.heap.size w w':=by
 obtain ⟨K,hK⟩ : ∃ K:Fin 8→Tr,K=fun i=>Tr.can F n (Tr.cor ⟨ax,ay,az⟩ n i.val):=⟨_,rfl⟩;obtain ⟨TK,hTK⟩ : ∃ TK:Nat→ByteArray,TK=fun k=>strOfNums (Tr.enc (Tr.can F n (Tr.cor ⟨ax,ay,az⟩ n k))):=⟨_,rfl⟩;have hres:Tr.can F (n+1) ⟨ax,ay,az⟩=Tr.mkInner (n+3) K:=by rw [hK];rfl
 have hKw : ∀ i,Tr.WF (K i):=fun i=>by rw [hK];exact zAm hF n _ (by omega)
 have hKs:(Tr.enc (.node (n+3) K)).length≤1000000000000000:=by
  have hk:=fun i=>(show (Tr.enc (K i)).length≤100000000000000 by rw [hK];exact zML hF (by omega) _)
  rw [←Tr.pos_all (n+3) K]
  have key : ∀ k,k≤8→Tr.pos K k≤2+k * 100000000000000:=by
   intro k
   induction k with
   | zero=>intro _;rw [Tr.pos_zero];omega
   | succ k ih=>intro hk8;rw [Tr.pos_succ K (by omega)];have h1:=ih (by omega);have h2:=hk ⟨k,by omega⟩;omega
  have:=key 8 (Nat.le_refl _);omega
 obtain ⟨i0,hi0,hz0,hz1,hz2⟩:=info_parts (show (Tryz.prog.info? 9).map (fun i=>(i.zero,i.size,i.bytes))=some (some (.string ByteArray.empty),1,16) by kernel_rfl)
 have hinr:=Bx.mk fun (a:Option Addr) (cap:Nat) W (h:Slv W a (zBR (zAw K)))=>zH0 (n+3) (by omega) K hKw hKs a cap W h
 rw [←hres,show ((n+3:Nat):Int)=(n:Int)+3 by omega] at hinr
 have hKat:=Bx.mk fun k (hk:k<8)=>(show zBR ((zAw K).take (k+1))=zBR ((zAw K).take k)++[.string (TK k)] by
  rw [zEM K hk,zFH,hTK,hK])
 have hcor:=Bx.mk fun W (k:Nat) (hk:k<8)=>zGk (n+2) (by omega) ax ay az k hk (by omega) (by omega) (by omega) W
 rw [show ((n+2:Nat):Int)+1=(n:Int)+3 by omega] at hcor
 have hsub:IntKind.i64.wrap ((n:Int)+3 - 1)=(n:Int)+2:=by rw [show (n:Int)+3 - 1=(n:Int)+2 by omega];exact IntWalk.i64_in _ (by omega)
 have h2:((n:Int)+3 == 2)=false:=by simp;omega
 have hih2:=hih;clear hih;have hih:=Bx.mk fun (k:Nat) (hk:k<8) W (h:Sl W .i64 ha xs)=>(show Calls Tryz.prog 85 #[.agg #[a,b,c,d,e,f,.slice ha xs.length hcp],.agg #[.int .i64 (ax+chX k (2 ^ (n+2))),.int .i64 (ay+chY k (2 ^ (n+2))),.int .i64 (az+chZ k (2 ^ (n+2)))],.int .i64 ((n:Int)+2)] W fun e' w'=>e' = .returned (.string (TK k))∧Below W.heap.size W w' from by rw [hTK];exact hih2.out k hk W h)
 clear hih2;have hmee:=Bx.mk fun W=>zC9 ax ay az (ax+m) (ay+m) (az+m) a b c d e f W;have hemp:=Bx.mk fun W=>zAp (zD ⟨⟨ax,ay,az⟩,⟨ax+m,ay+m,az+m⟩⟩ ⟨⟨a,b,c⟩,⟨d,e,f⟩⟩).lo.x (zD ⟨⟨ax,ay,az⟩,⟨ax+m,ay+m,az+m⟩⟩ ⟨⟨a,b,c⟩,⟨d,e,f⟩⟩).lo.y (zD ⟨⟨ax,ay,az⟩,⟨ax+m,ay+m,az+m⟩⟩ ⟨⟨a,b,c⟩,⟨d,e,f⟩⟩).lo.z (zD ⟨⟨ax,ay,az⟩,⟨ax+m,ay+m,az+m⟩⟩ ⟨⟨a,b,c⟩,⟨d,e,f⟩⟩).hi.x (zD ⟨⟨ax,ay,az⟩,⟨ax+m,ay+m,az+m⟩⟩ ⟨⟨a,b,c⟩,⟨d,e,f⟩⟩).hi.y (zD ⟨⟨ax,ay,az⟩,⟨ax+m,ay+m,az+m⟩⟩ ⟨⟨a,b,c⟩,⟨d,e,f⟩⟩).hi.z W;rw [show zG (⟨⟨(zD ⟨⟨ax,ay,az⟩,⟨ax+m,ay+m,az+m⟩⟩ ⟨⟨a,b,c⟩,⟨d,e,f⟩⟩).lo.x,(zD ⟨⟨ax,ay,az⟩,⟨ax+m,ay+m,az+m⟩⟩ ⟨⟨a,b,c⟩,⟨d,e,f⟩⟩).lo.y,(zD ⟨⟨ax,ay,az⟩,⟨ax+m,ay+m,az+m⟩⟩ ⟨⟨a,b,c⟩,⟨d,e,f⟩⟩).lo.z⟩,⟨(zD ⟨⟨ax,ay,az⟩,⟨ax+m,ay+m,az+m⟩⟩ ⟨⟨a,b,c⟩,⟨d,e,f⟩⟩).hi.x,(zD ⟨⟨ax,ay,az⟩,⟨ax+m,ay+m,az+m⟩⟩ ⟨⟨a,b,c⟩,⟨d,e,f⟩⟩).hi.y,(zD ⟨⟨ax,ay,az⟩,⟨ax+m,ay+m,az+m⟩⟩ ⟨⟨a,b,c⟩,⟨d,e,f⟩⟩).hi.z⟩⟩:Box)=false from hem] at hemp;generalize (zD ⟨⟨ax,ay,az⟩,⟨ax+m,ay+m,az+m⟩⟩ ⟨⟨a,b,c⟩,⟨d,e,f⟩⟩)=M at *;clear hem;obtain ⟨⟨m0,m1,m2⟩,⟨m3,m4,m5⟩⟩:=M;have Hsl:=Bx.mk hsl;clear hK hTK hres hKw hKs hx hy hz hF hsl;generalize strOfNums (Tr.enc (Tr.can F (n+1) ⟨ax,ay,az⟩))=S2 at *;go_enter Tryz.func85,Tryz.ntmps85;go_wp2_with fail;generalize hW:World.alloc (World.alloc w _) _=W;have hSz:=sz2 hW;have hB:=bl2 hW;have kg:Bk W (w.heap.size) #[a,b,c,d,e,f,.slice ha xs.length hcp] 28:=bk1 hW;have kp:Bk W (w.heap.size+1) #[ax,ay,az] 23:=bk0 hW;clear hW;obtain ⟨cp0,cp1,cp2⟩:=kp.c3;go_wp2_with fail;refine (hcub.out _).mono ?_;rintro _ w1 ⟨rfl,hb1⟩;replace hB:=hB.trans (hb1.mono hB.size);replace kg:=kg.later hb1;replace kp:=kp.later hb1;replace hSz:=Nat.le_trans hSz hb1.size;clear hb1;clear cp0 cp1 cp2;have n0 : ∀ o,(w1.alloc o).cell? ⟨w.heap.size,0,none⟩=some (.int .i64 a):=fun o=>Bk.cell (zB kg) 0 rfl;have n1 : ∀ o,(w1.alloc o).cell? ⟨w.heap.size,1,none⟩=some (.int .i64 b):=fun o=>Bk.cell (zB kg) 1 rfl;have n2 : ∀ o,(w1.alloc o).cell? ⟨w.heap.size,2,none⟩=some (.int .i64 c):=fun o=>Bk.cell (zB kg) 2 rfl;have n3 : ∀ o,(w1.alloc o).cell? ⟨w.heap.size,3,none⟩=some (.int .i64 d):=fun o=>Bk.cell (zB kg) 3 rfl;have n4 : ∀ o,(w1.alloc o).cell? ⟨w.heap.size,4,none⟩=some (.int .i64 e):=fun o=>Bk.cell (zB kg) 4 rfl;have n5 : ∀ o,(w1.alloc o).cell? ⟨w.heap.size,5,none⟩=some (.int .i64 f):=fun o=>Bk.cell (zB kg) 5 rfl;go_wp2_with fail;generalize hW2:World.alloc w1 _=V2;have hb2:=bl1 hW2;have kc:Bk V2 w1.heap.size #[ax,ay,az,.int .i64 (ax+m),.int .i64 (ay+m),.int .i64 (az+m)] 25:=bk0 hW2 rfl;replace hB:=hB.trans (hb2.mono hB.size);replace kg:=kg.later hb2;replace kp:=kp.later hb2;replace hSz:=Nat.le_trans hSz hb2.size;clear hb2;clear hW2 n0 n1 n2 n3 n4 n5;generalize w1.heap.size=gc at *;refine (hmee.out _).mono ?_;rintro _ w3 ⟨rfl,hb3⟩;replace hB:=hB.trans (hb3.mono hB.size);replace kg:=kg.later hb3;replace kp:=kp.later hb3;replace kc:=kc.later hb3;replace hSz:=Nat.le_trans hSz hb3.size;clear hb3;go_wp2_with fail;refine (hemp.out _).mono ?_;rintro _ w4 ⟨rfl,hb4⟩;replace hB:=hB.trans (hb4.mono hB.size);replace kg:=kg.later hb4;replace kp:=kp.later hb4;replace kc:=kc.later hb4;replace hSz:=Nat.le_trans hSz hb4.size;clear hb4;clear hcub hmee hemp;have HI:Bx (TrI w #[a,b,c,d,e,f,.slice ha xs.length hcp] #[ax,ay,az] ha xs (.slice none 0 0) (zBR ((zAw K).take 0)) w4):=⟨⟨kg,kp,Ownv.nil _ _ _,hB,Hsl.out.below hB⟩⟩;clear kg kp kc hB hSz;go_wp2_with fail
 go_loopw [11,12] (fun v11 v12 wr => ∃ k:Nat,k≤8∧v12 = .int .i64 k∧Bx (TrI w #[a,b,c,d,e,f,.slice ha xs.length hcp] #[ax,ay,az] ha xs v11 (zBR ((zAw K).take k)) wr)) (fun _ i _=>8 - (intOf i).toNat)
 case atStart=>exact ⟨0,Nat.zero_le _,rfl,HI⟩
 case round =>
  clear HI;obtain ⟨k,hk,rfl,HI⟩:=hrel;by_cases hlt:k<8
  · have t0:decide ((k:Int)<8)=true:=by simp;omega
    have b1:(0:Int)≤(k:Int):=by omega
    have b2:(k:Int)<8:=by omega
    have hnext:=Bx.mk (hKat.out k hlt);have Htl:=Bx.mk (show (zBR ((zAw K).take k)).length≤1000000000 by rw [zAn,List.length_take];omega)
    obtain ⟨cg0,cg1,cg2,cg3,cg4,cg5,cg6⟩:=HI.out.kg.c7;obtain ⟨cp0,cp1,cp2⟩:=HI.out.kp.c3;have hle3:w.heap.size+1+1≤wr.heap.size:=HI.out.kp.lt;go_wp2_with fail
    go_region_held3 (fun w'=>w'.cell? ⟨w.heap.size,0,none⟩=some (.int .i64 a)∧w'.cell? ⟨w.heap.size,1,none⟩=some (.int .i64 b)∧w'.cell? ⟨w.heap.size,2,none⟩=some (.int .i64 c)∧w'.cell? ⟨w.heap.size,3,none⟩=some (.int .i64 d)∧w'.cell? ⟨w.heap.size,4,none⟩=some (.int .i64 e)∧w'.cell? ⟨w.heap.size,5,none⟩=some (.int .i64 f)∧w'.cell? ⟨w.heap.size,6,none⟩=some (.slice ha xs.length hcp)∧w'.cell? ⟨w.heap.size+1,0,none⟩=some (.int .i64 ax)∧w'.cell? ⟨w.heap.size+1,1,none⟩=some (.int .i64 ay)∧w'.cell? ⟨w.heap.size+1,2,none⟩=some (.int .i64 az))
     (first | go_keep | (dsimp only;and_intros <;> assumption))
     (first
      | (go_at_call 85;refine (hih.out k hlt _ HI5.sl).mono ?_;rintro e6 w6 ⟨rfl,hb6⟩;have HI6:=HI5.later hb6;have d0:=HI6.kg.cell 0 rfl;have d1:=HI6.kg.cell 1 rfl;have d2:=HI6.kg.cell 2 rfl;have d3:=HI6.kg.cell 3 rfl;have d4:=HI6.kg.cell 4 rfl;have d5:=HI6.kg.cell 5 rfl;have d6:=HI6.kg.cell 6 rfl;have e0':=HI6.kp.cell 0 rfl;have e1':=HI6.kp.cell 1 rfl;have e2':=HI6.kp.cell 2 rfl)
      | (go_at_call 131;refine (hcor.out _ k hlt).mono ?_;rintro e5 w5 ⟨rfl,hb5⟩;have hB5:=(Below.refl wr.heap.size wr).drew.trans hb5;have HI5:=HI.out.later hB5;have d0':=HI5.kg.cell 0 rfl;have d1':=HI5.kg.cell 1 rfl;have d2':=HI5.kg.cell 2 rfl;have d3':=HI5.kg.cell 3 rfl;have d4':=HI5.kg.cell 4 rfl;have d5':=HI5.kg.cell 5 rfl;have d6':=HI5.kg.cell 6 rfl;have e0'':=HI5.kp.cell 0 rfl;have e1'':=HI5.kp.cell 1 rfl;have e2'':=HI5.kp.cell 2 rfl)
      | (refine step_append_lies _ (by rfl) (.tmp 38) (.tmp 47) 110 (by rfl) (w.heap.size+1+1) 9 i0 (.string ByteArray.empty) 1 16 Tryz.underlying110 hi0 hz0 hz1 hz2 rfl (by omega) _ _ _ (by simp [Act.eval,Act.put]) (HI6.own.alloc _) ⟨w6.heap.size,0,none⟩ 1 1 [.string (TK k)] (by simp [Act.eval,Act.put]) rfl (zLa w6 _) zJc (by omega) (by have:=Htl.out;simp only [maxLen];omega) (by have:=Htl.out;omega) (by have:=HI6.kp.lt;simp;omega) (w6.heap.size+1) (by simp) ?_;intro g9 c9 w9 hown9 hg9 hat9 hlt9;have HI7:=HI6.later (zW w6 (.cells #[.string (TK k)] 9));have kg9:=Bk.grownO HI7.kg hg9 (fun e=>by have:=(HI7.own.lt _ e).1;omega);have kp9:=Bk.grownO HI7.kp hg9 (fun e=>by have:=(HI7.own.lt _ e).1;omega);have f0:=kg9.cell 0 rfl;have f1:=kg9.cell 1 rfl;have f2:=kg9.cell 2 rfl;have f3:=kg9.cell 3 rfl;have f4:=kg9.cell 4 rfl;have f5:=kg9.cell 5 rfl;have f6:=kg9.cell 6 rfl;have f0':=kp9.cell 0 rfl;have f1':=kp9.cell 1 rfl;have f2':=kp9.cell 2 rfl))
    have hO:Ownv w9 (w.heap.size+1+1) 9 (.slice (some ⟨g9,0,none⟩) ((zBR (List.take k (zAw K))).length+1) c9) (zBR ((zAw K).take (k+1))):=by
     unfold Ownv;rw [hnext.out,List.length_append,List.length_singleton];exact hown9
    have hb9:=(HI7.bel).grown hg9 HI7.bel.size (fun g hg=>by have:=(HI7.own.lt g hg).1;omega)
    have HI3:=Bx.mk (show TrI w #[a,b,c,d,e,f,.slice ha xs.length hcp] #[ax,ay,az] ha xs _ (zBR ((zAw K).take (k+1))) w9 from ⟨kg9,kp9,hO,hb9,Hsl.out.below hb9⟩);clear hown9 hg9 hb9 hO kg9 kp9 hat9 hlt9 f0 f1 f2 f3 f4 f5 f6 f0' f1' f2' d0 d0' d1 d1' d2 d2' d3 d3' d4 d4' d5 d5' d6 d6' e0' e0'' e1' e1'' e2' e2'' HI7 HI6 HI5 cg0 cg1 cg2 cg3 cg4 cg5 cg6 cp0 cp1 cp2;go_wp2_with fail
    go_roundw
    case rel=>exact ⟨k+1,by omega,by go_num,HI3⟩
    case measure=>simp [intOf];omega
  · obtain rfl:k=8:=by omega
    have t0:decide (((8:Nat):Int)<8)=false:=by decide
    have hown2:=HI.out.own;rw [List.take_of_length_le (by rw [zBX];exact Nat.le_refl _)] at hown2
    obtain ⟨pa,pc,rfl,hsl⟩:=hown2.form;have hl8:(zBR (zAw K)).length=8:=by rw [zAn,zBX]
    rw [hl8];have Hsl:=Bx.mk hsl;clear hsl hown2 hl8;go_wp2_with fail;refine (hinr.out pa pc _ Hsl.out).mono ?_;rintro _ w9 ⟨rfl,hb9⟩;have HB9:=Bx.mk (HI.out.bel.trans (hb9.mono HI.out.bel.size));clear hb9;go_wp2_with fail;go_ret;exact ⟨rfl,HB9.out⟩
end
end Go.Proofs.YtfcbajmjaifjlaaGreatDoor
