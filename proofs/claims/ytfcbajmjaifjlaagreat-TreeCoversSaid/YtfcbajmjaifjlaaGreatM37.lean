/- Rcp, Rps, Rse, Rsf, Rcr: joined by program, for one claim. -/
import Derived.Test.YtfcbajmjaifjlaaGreatMr
import Derived.Test.YtfcbajmjaifjlaaGreatM36
import Derived.Deep.RegionHeld3
import Derived.Deep.AppendLies
import Derived.Test.YtfcbajmjaifjlaaGreatM17
import Derived.Test.YtfcbajmjaifjlaaGreatM20
import Derived.Test.YtfcbajmjaifjlaaGreatM27
import Derived.Test.YtfcbajmjaifjlaaGreatM18
set_option linter.unusedVariables false
set_option linter.unusedSimpArgs false
namespace Go.Proofs.YtfcbajmjaifjlaaGreat
section
open Go.RowKit Go.Sort Go.Maps
open Oct
attribute [local go_sem ↓] Go.wp_at_zero Go.wp_at_succ
set_option maxRecDepth 100000 in
set_option maxHeartbeats 2000000 in
theorem ref_copied (a b c d e f:Int) (pb po:Nat) (hcp n:Nat) (xs:List Int) (hn:xs.length=n) (h1:0<n) (h2:n≤5000) (w:World) (hsl:Sl w .i64 (some ⟨pb,po,none⟩) xs) :
 Calls Tryz.prog 88 #[.agg #[a,b,c,d,e,f,.slice (some ⟨pb,po,none⟩) n hcp]] w fun e' w' => ∃ g cap,e' = .returned (.agg #[a,b,c,d,e,f,.slice (some ⟨g,0,none⟩) n cap])∧Own w' w.heap.size 3 .i64 (.slice (some ⟨g,0,none⟩) n cap) xs∧Below w.heap.size w w':=by
 obtain ⟨i0,hi0,hz0,hz1,hz2⟩:=info_parts (show (Tryz.prog.info? 3).map (fun i=>(i.zero,i.size,i.bytes))=some (some (.int .i64 0),1,8) by kernel_rfl)
 have hlm:=Bx.mk (show (xs.map (Value.int .i64)).length=n * 1 by rw [List.length_map,hn];omega)
 have h1c:=Bx.mk (show ∀ u∈xs.map (Value.int .i64),u.oneCell'=true from fun u hu=>by
  obtain ⟨x,_,rfl⟩:=List.mem_map.1 hu
  rfl)
 have Hsl:=Bx.mk hsl
 have Hn:=Bx.mk hn
 clear hsl hn
 go_enter Tryz.func88,Tryz.ntmps88
 go_wp2_with fail
 generalize hW:World.alloc (World.alloc w _) _=W
 have hSz:=sz2 hW
 have hB:=bl2 hW
 have kg:Bk W (w.heap.size) #[a,b,c,d,e,f,.slice (some ⟨pb,po,none⟩) n hcp] 28:=bk1 hW
 have kr:Bk W (w.heap.size+1) #[(0:Int),(0:Int),(0:Int),(0:Int),(0:Int),(0:Int),.slice none 0 0] 28:=bk0 hW
 clear hW
 obtain ⟨cg0,cg1,cg2,cg3,cg4,cg5,cg6⟩:=kg.c7
 obtain ⟨cr0,cr1,cr2,cr3,cr4,cr5,cr6⟩:=kr.c7
 obtain ⟨fr0,fr1,fr2,fr3,fr4,fr5,fr6⟩:=kr.f7
 have hnw:=Bx.mk fun (V:World) (hV:Below W.heap.size W V)=>(show ∀ j u,(xs.map (Value.int .i64))[j]? = some u→V.cell? ((⟨pb,po,none⟩:Addr).add j)=some u from fun j u hu=>by
  rw [List.getElem?_map] at hu
  cases hx:xs[j]? with
  | none=>rw [hx] at hu;cases hu
  | some x =>
    rw [hx] at hu
    injection hu with hu
    subst hu
    obtain ⟨b',off',he,hc⟩:=(Hsl.out.below (hB.trans (hV.mono hB.size))) j x hx
    simp only [Option.some.injEq,Addr.mk.injEq,and_true] at he
    obtain ⟨rfl,rfl⟩:=he
    have:(⟨pb,po,none⟩:Addr).add j=⟨pb,po+j,none⟩:=by unfold Addr.add;split <;> simp_all
    rw [this];exact hc)
 go_region_held3 (fun w'=>w'.cell? ⟨w.heap.size,0,none⟩=some (.int .i64 a)∧w'.cell? ⟨w.heap.size,1,none⟩=some (.int .i64 b)∧w'.cell? ⟨w.heap.size,2,none⟩=some (.int .i64 c)∧w'.cell? ⟨w.heap.size,3,none⟩=some (.int .i64 d)∧w'.cell? ⟨w.heap.size,4,none⟩=some (.int .i64 e)∧w'.cell? ⟨w.heap.size,5,none⟩=some (.int .i64 f)∧w'.cell? ⟨w.heap.size,6,none⟩=some (.slice (some ⟨pb,po,none⟩) n hcp))
  (first | go_keep | (dsimp only;and_intros <;> assumption))
  ((refine step_append_lies _ (by rfl) (.tmp 6) (.tmp 8) 26 (by rfl) (w.heap.size+1+1) 3 i0 (.int .i64 0) 1 8 Tryz.underlying26 hi0 hz0 hz1 hz2 rfl (by omega) (.slice none 0 0) 0 [] (by simp [Act.eval,Act.put]) (World.ownsRow_nil _ _ _ _) ⟨pb,po,none⟩ n hcp (xs.map (Value.int .i64)) (by simp [Act.eval,Act.put]) hlm.out (hnw.out _ (Below.refl _ _).drew) h1c.out h1 (by simp only [maxLen];omega) (by omega) hSz W.heap.size rfl ?_;intro g cap w1 hown hg hat hlt;have hb9:=((Below.refl W.heap.size W).drew).grown hg (Nat.le_refl _) (fun g h=>by cases h);have kg9:=kg.later hb9;have kr9:=kr.later hb9;have d0:=kg9.cell 0 rfl;have d1:=kg9.cell 1 rfl;have d2:=kg9.cell 2 rfl;have d3:=kg9.cell 3 rfl;have d4:=kg9.cell 4 rfl;have d5:=kg9.cell 5 rfl;have d6:=kg9.cell 6 rfl;have e0:=kr9.cell 0 rfl;have h0:=kr9.frozen 0;have e1:=kr9.cell 1 rfl;have h1:=kr9.frozen 1;have e2:=kr9.cell 2 rfl;have h2:=kr9.frozen 2;have e3:=kr9.cell 3 rfl;have h3:=kr9.frozen 3;have e4:=kr9.cell 4 rfl;have h4:=kr9.frozen 4;have e5:=kr9.cell 5 rfl;have h5:=kr9.frozen 5;have e6:=kr9.cell 6 rfl;have h6:=kr9.frozen 6))
 have hO:Own w1 (w.heap.size+1+1) 3 .i64 (.slice (some ⟨g,0,none⟩) n cap) xs:=by
  have hown2:=hown
  simp only [Nat.zero_add,List.nil_append] at hown2
  unfold Own
  rw [Hn.out];exact hown2
 have kr2:=kr9.put7 (.int .i64 a) (.int .i64 b) (.int .i64 c) (.int .i64 d) (.int .i64 e) (.int .i64 f) (.slice (some ⟨g,0,none⟩) n cap)
 have hB2:=blw7 (hB.trans (hb9.mono hB.size)) (show w.heap.size≤w.heap.size+1 by omega) (.int .i64 a) (.int .i64 b) (.int .i64 c) (.int .i64 d) (.int .i64 e) (.int .i64 f) (.slice (some ⟨g,0,none⟩) n cap)
 have hO2:Own _ (w.heap.size+1+1) 3 .i64 (.slice (some ⟨g,0,none⟩) n cap) xs:=((((((hO.setBelow (a:=⟨w.heap.size+1,0,none⟩) (by simp only;omega) (.int .i64 a)).setBelow (a:=⟨w.heap.size+1,1,none⟩) (by simp only;omega) (.int .i64 b)).setBelow (a:=⟨w.heap.size+1,2,none⟩) (by simp only;omega) (.int .i64 c)).setBelow (a:=⟨w.heap.size+1,3,none⟩) (by simp only;omega) (.int .i64 d)).setBelow (a:=⟨w.heap.size+1,4,none⟩) (by simp only;omega) (.int .i64 e)).setBelow (a:=⟨w.heap.size+1,5,none⟩) (by simp only;omega) (.int .i64 f)).setBelow (a:=⟨w.heap.size+1,6,none⟩) (by simp only;omega) (.slice (some ⟨g,0,none⟩) n cap)
 clear hg hat hown hO kr9 kg9 kr kg d0 d1 d2 d3 d4 d5 d6 e0 e1 e2 e3 e4 e5 e6 h0 h1 h2 h3 h4 h5 h6 cg0 cg1 cg2 cg3 cg4 cg5 cg6 cr0 cr1 cr2 cr3 cr4 cr5 cr6 fr0 fr1 fr2 fr3 fr4 fr5 fr6
 go_wp2_with fail
 exact bodyPost_ret (v:=.agg #[a,b,c,d,e,f,.slice (some ⟨g,0,none⟩) n cap]) (results_cell_row rfl _ _ _ 28 #[a,b,c,d,e,f,.slice (some ⟨g,0,none⟩) n cap] (0,0) _ rfl kr2 Tryz.underlying28 rfl (by kernel_rfl)) rfl ⟨g,cap,rfl,hO2.base (by omega),hB2⟩
end
section
open Go.RowKit Go.Sort Go.Maps
open Oct
structure RpI (w:World) (gv hv ov:Array Value) (n cap g1 go:Nat) (hb:Option Addr) (ys:List Int) (xs:List Int) (wr:World):Prop where
 kg:Bk wr w.heap.size gv 28
 kh:Bk wr (w.heap.size+1) hv 28
 kr:Bk wr (w.heap.size+1+1) #[(0:Int),(0:Int),(0:Int),(0:Int),(0:Int),(0:Int),.slice none 0 0] 28
 ko:Bk wr go ov 28
 own:Own wr (w.heap.size+1+1+1) 3 .i64 (.slice (some ⟨g1,0,none⟩) n cap) xs
 bel:Below w.heap.size w wr
 sl:Sl wr .i64 hb ys
 lt:w.heap.size+1+1<g1∧g1<go
theorem RpI.later {w wr w':World} {gv hv ov:Array Value} {n cap g1 go:Nat} {hb:Option Addr} {ys xs:List Int} (H:RpI w gv hv ov n cap g1 go hb ys xs wr) (h:Below wr.heap.size wr w'):RpI w gv hv ov n cap g1 go hb ys xs w' :=
 ⟨H.kg.later h,H.kh.later h,H.kr.later h,H.ko.later h,H.own.below h,H.bel.trans (h.mono H.bel.size),H.sl.below h,H.lt⟩
theorem RpI.put {w wr:World} {gv hv ov:Array Value} {n cap g1 go:Nat} {hb:Option Addr} {ys xs:List Int} (H:RpI w gv hv ov n cap g1 go hb ys xs wr) (hn:xs.length=n) (h0:0<n) (hf:ys ≠ [] → ∀ b,hb.map (·.block)=some b→b<w.heap.size) (k:Nat) (x:Int):RpI w gv hv ov n cap g1 go hb ys (xs.set k x) (wr.setCell ⟨g1,k,none⟩ (.int .i64 x)):=by
 have hlt:=H.lt
 obtain ⟨g',cap',he,-,-,-,-,hst⟩:=H.own.at (by omega)
 rw [hn] at he hst
 injection he with h1 h2 h3
 injection h1 with h1
 injection h1 with h1
 subst h1 h3
 refine ⟨H.kg.other _ _ (by simp only;omega),H.kh.other _ _ (by simp only;omega),H.kr.other _ _ (by simp only;omega),H.ko.other _ _ (by simp only;omega),hst k x,H.bel.setCell (by simp only;omega) _,?_,hlt⟩
 intro i y hy
 obtain ⟨b',off',he,hc⟩:=H.sl i y hy
 refine ⟨b',off',he,?_⟩
 have:=hf (by rintro rfl;simp at hy) b' (by rw [he];rfl)
 rw [World.cell?_of_block (heap_setCell_other wr _ _ _ (by simp only;omega))];exact hc
def fillM (b:Box) (zs:List Int) (G:Pt→Int) (inn:Pt→Bool) (k:Nat):List Int:=(List.range zs.length).map fun j:Nat=>if j<k∧inn (atB b (j:Int))=true then G (atB b (j:Int)) else zs.getD j 0
theorem fillM_length (b:Box) (zs:List Int) (G:Pt→Int) (inn:Pt→Bool) (k:Nat):(fillM b zs G inn k).length=zs.length:=by simp [fillM]
theorem fillM_get (b:Box) (zs:List Int) (G:Pt→Int) (inn:Pt→Bool) (k:Nat) {j:Nat} (hj:j<zs.length):(fillM b zs G inn k)[j]? = some (if j<k∧inn (atB b (j:Int))=true then G (atB b (j:Int)) else zs.getD j 0):=by
 unfold fillM
 rw [List.getElem?_map,List.getElem?_range hj]
 rfl
theorem fillM_zero (b:Box) (zs:List Int) (G:Pt→Int) (inn:Pt→Bool):fillM b zs G inn 0=zs:=by
 apply List.ext_getElem?
 intro i
 rcases Nat.lt_or_ge i zs.length with h | h
 · rw [fillM_get b zs G inn 0 h,if_neg (by omega),List.getD,List.getElem?_eq_getElem h]
   rfl
 · rw [List.getElem?_eq_none (by rw [fillM_length];exact h),List.getElem?_eq_none h]
theorem fillM_at (b:Box) (zs:List Int) (G:Pt→Int) (inn:Pt→Bool) {k:Nat} (hk:k<zs.length):(fillM b zs G inn k)[k]? = some (zs.getD k 0):=by
 rw [fillM_get b zs G inn k hk,if_neg (by omega)]
theorem fillM_set (b:Box) (zs:List Int) (G:Pt→Int) (inn:Pt→Bool) {k:Nat} (hk:k<zs.length) (hi:inn (atB b (k:Int))=true):(fillM b zs G inn k).set k (G (atB b (k:Int)))=fillM b zs G inn (k+1):=by
 apply List.ext_getElem?
 intro i
 rw [List.getElem?_set]
 rcases Nat.lt_or_ge i zs.length with h | h
 · rw [fillM_get b zs G inn k h,fillM_get b zs G inn (k+1) h]
   by_cases e:k=i
   · subst e
     rw [if_pos rfl,if_pos (by rw [fillM_length];exact hk),if_pos ⟨Nat.lt_succ_self k,hi⟩]
   · rw [if_neg e]
     by_cases h2:i<k
     · simp [h2,Nat.lt_succ_of_lt h2]
     · rw [if_neg (fun h=>h2 h.1),if_neg (fun h=>h2 (by omega))]
 · rw [if_neg (by omega),List.getElem?_eq_none (by rw [fillM_length];exact h),List.getElem?_eq_none (by rw [fillM_length];exact h)]
theorem fillM_stay (b:Box) (zs:List Int) (G:Pt→Int) (inn:Pt→Bool) {k:Nat} (hi:inn (atB b (k:Int))=false):fillM b zs G inn k=fillM b zs G inn (k+1):=by
 unfold fillM
 refine List.map_congr_left fun j _=>?_
 by_cases e:j=k
 · subst e
   rw [if_neg (by omega),if_neg (by rw [hi];simp)]
 · by_cases h2:j<k
   · simp [h2,Nat.lt_succ_of_lt h2]
   · rw [if_neg (fun h=>h2 h.1),if_neg (fun h=>h2 (by omega))]
theorem fillM_all (b:Box) (F G:Pt→Int) (inn:Pt→Bool) {n:Nat} (hn:(cellsOf b F).length=n):fillM b (cellsOf b F) G inn n=cellsOf b fun p=>if inn p=true then G p else F p:=by
 apply List.ext_getElem?
 intro i
 rcases Nat.lt_or_ge i n with h | h
 · rw [fillM_get b _ G inn n (by omega),cellsOf_get (by rw [cellsOf_length] at hn;omega),List.getD,cellsOf_get (by rw [cellsOf_length] at hn;omega)]
   by_cases hi:inn (atB b (i:Int))=true
   · rw [if_pos ⟨h,hi⟩,if_pos hi]
   · rw [if_neg (fun h=>hi h.2),if_neg hi]
     rfl
 · rw [List.getElem?_eq_none (by rw [fillM_length];omega),List.getElem?_eq_none (by rw [cellsOf_length] at hn ⊢; omega)]
set_option maxRecDepth 100000 in
set_option maxHeartbeats 4000000 in
theorem ref_paste_any (a b c d e f a2 b2 c2 d2 e2 f2:Int) (pb po n hcp:Nat) (hb:Option Addr) (hcp2:Nat) (ys:List Int) (HS:Small ⟨⟨a,b,c⟩,⟨d,e,f⟩⟩ 1048575) (hV:volB ⟨⟨a,b,c⟩,⟨d,e,f⟩⟩=n) (h0:0<n) (hle:n≤5000) (HX:GoodG ⟨⟨a2,b2,c2⟩,⟨d2,e2,f2⟩⟩ ys hcp2) (F0:Pt→Int) (zs:List Int) (hzs:zs=cellsOf ⟨⟨a,b,c⟩,⟨d,e,f⟩⟩ F0) (w:World) (hsl:Sl w .i64 (some ⟨pb,po,none⟩) zs) (hsm:Sl w .i64 hb ys) :
 Calls Tryz.prog 31 #[.agg #[a,b,c,d,e,f,.slice (some ⟨pb,po,none⟩) n hcp],.agg #[a2,b2,c2,d2,e2,f2,.slice hb ys.length hcp2]] w fun e' w' => ∃ g cap,e' = .returned (.agg #[a,b,c,d,e,f,.slice (some ⟨g,0,none⟩) n cap])∧Own w' w.heap.size 3 .i64 (.slice (some ⟨g,0,none⟩) n cap) (cellsOf ⟨⟨a,b,c⟩,⟨d,e,f⟩⟩ fun p=>if inB p ⟨⟨a2,b2,c2⟩,⟨d2,e2,f2⟩⟩=true then cellG ⟨⟨a2,b2,c2⟩,⟨d2,e2,f2⟩⟩ ys p else F0 p)∧Below w.heap.size w w':=by
 have hzl:zs.length=n:=by rw [hzs,cellsOf_length];omega
 have hcpd:=Bx.mk fun W (h:Sl W .i64 (some ⟨pb,po,none⟩) zs)=>ref_copied a b c d e f pb po hcp n zs hzl h0 hle W h
 have hat:=Bx.mk fun W (k:Nat) (hk:k<n)=>ref_at_yes a b c d e f (k:Int) HS (by omega) W
 have hin:=Bx.mk fun W (k:Nat)=>ref_in (atB ⟨⟨a,b,c⟩,⟨d,e,f⟩⟩ (k:Int)).x (atB ⟨⟨a,b,c⟩,⟨d,e,f⟩⟩ (k:Int)).y (atB ⟨⟨a,b,c⟩,⟨d,e,f⟩⟩ (k:Int)).z a2 b2 c2 d2 e2 f2 W
 have hgt:=Bx.mk fun W (k:Nat) (h:Sl W .i64 hb ys)=>ref_get a2 b2 c2 d2 e2 f2 (atB ⟨⟨a,b,c⟩,⟨d,e,f⟩⟩ (k:Int)).x (atB ⟨⟨a,b,c⟩,⟨d,e,f⟩⟩ (k:Int)).y (atB ⟨⟨a,b,c⟩,⟨d,e,f⟩⟩ (k:Int)).z hb hcp2 ys HX W h
 have hall:=Bx.mk (show fillM ⟨⟨a,b,c⟩,⟨d,e,f⟩⟩ zs (cellG ⟨⟨a2,b2,c2⟩,⟨d2,e2,f2⟩⟩ ys) (fun p=>inB p ⟨⟨a2,b2,c2⟩,⟨d2,e2,f2⟩⟩) n=cellsOf ⟨⟨a,b,c⟩,⟨d,e,f⟩⟩ fun p=>if inB p ⟨⟨a2,b2,c2⟩,⟨d2,e2,f2⟩⟩=true then cellG ⟨⟨a2,b2,c2⟩,⟨d2,e2,f2⟩⟩ ys p else F0 p from by rw [hzs];exact fillM_all _ _ _ _ (by rw [←hzs];exact hzl))
 have hset:=Bx.mk fun (k:Nat) (hk:k<n) (hi:inB (atB ⟨⟨a,b,c⟩,⟨d,e,f⟩⟩ (k:Int)) ⟨⟨a2,b2,c2⟩,⟨d2,e2,f2⟩⟩=true)=>fillM_set ⟨⟨a,b,c⟩,⟨d,e,f⟩⟩ zs (cellG ⟨⟨a2,b2,c2⟩,⟨d2,e2,f2⟩⟩ ys) (fun p=>inB p ⟨⟨a2,b2,c2⟩,⟨d2,e2,f2⟩⟩) (k:=k) (by omega) hi
 have hstay:=Bx.mk fun (k:Nat) (hi:inB (atB ⟨⟨a,b,c⟩,⟨d,e,f⟩⟩ (k:Int)) ⟨⟨a2,b2,c2⟩,⟨d2,e2,f2⟩⟩=false)=>fillM_stay ⟨⟨a,b,c⟩,⟨d,e,f⟩⟩ zs (cellG ⟨⟨a2,b2,c2⟩,⟨d2,e2,f2⟩⟩ ys) (fun p=>inB p ⟨⟨a2,b2,c2⟩,⟨d2,e2,f2⟩⟩) (k:=k) hi
 have hlen:=Bx.mk fun (k:Nat)=>(fillM_length ⟨⟨a,b,c⟩,⟨d,e,f⟩⟩ zs (cellG ⟨⟨a2,b2,c2⟩,⟨d2,e2,f2⟩⟩ ys) (fun p=>inB p ⟨⟨a2,b2,c2⟩,⟨d2,e2,f2⟩⟩) k).trans hzl
 have hzero:=Bx.mk (fillM_zero ⟨⟨a,b,c⟩,⟨d,e,f⟩⟩ zs (cellG ⟨⟨a2,b2,c2⟩,⟨d2,e2,f2⟩⟩ ys) (fun p=>inB p ⟨⟨a2,b2,c2⟩,⟨d2,e2,f2⟩⟩))
 have hfat:=Bx.mk fun (k:Nat) (hk:k<n)=>fillM_at ⟨⟨a,b,c⟩,⟨d,e,f⟩⟩ zs (cellG ⟨⟨a2,b2,c2⟩,⟨d2,e2,f2⟩⟩ ys) (fun p=>inB p ⟨⟨a2,b2,c2⟩,⟨d2,e2,f2⟩⟩) (k:=k) (by omega)
 have hfar:=Bx.mk (show ys ≠ [] → ∀ b,hb.map (·.block)=some b→b<w.heap.size from fun hx b hb'=>by
  obtain ⟨x,r,rfl⟩:=List.exists_cons_of_ne_nil hx
  obtain ⟨b',off,h1,h2⟩:=hsm 0 x rfl
  rw [h1] at hb'
  simp only [Option.map_some,Option.some.injEq] at hb'
  rw [←hb'];exact World.block_lt_of_cell? w _ h2)
 have Hsl:=Bx.mk hsl
 have Hsm:=Bx.mk hsm
 clear hsl hsm HS hV HX hzs hzl
 go_enter Tryz.func31,Tryz.ntmps31
 go_wp2_with fail
 generalize hW:World.alloc (World.alloc (World.alloc w _) _) _=W
 have hSz:=sz3 hW
 have hB:=bl3 hW
 have kg:Bk W (w.heap.size) #[a,b,c,d,e,f,.slice (some ⟨pb,po,none⟩) n hcp] 28:=bk2 hW
 have kh:Bk W (w.heap.size+1) #[a2,b2,c2,d2,e2,f2,.slice hb ys.length hcp2] 28:=bk1 hW
 have kr:Bk W (w.heap.size+1+1) #[(0:Int),(0:Int),(0:Int),(0:Int),(0:Int),(0:Int),.slice none 0 0] 28:=bk0 hW
 clear hW
 obtain ⟨cg0,cg1,cg2,cg3,cg4,cg5,cg6⟩:=kg.c7
 have q0:True:=trivial
 refine (hcpd.out _ (Hsl.out.below hB)).mono ?_
 rintro _ w1 ⟨g1,cap,rfl,hown,hb1⟩
 have hg1:=hown.lt g1 rfl
 have hSzW:=hSz
 have Hown:=Bx.mk hown
 replace hB:=hB.trans (hb1.mono hB.size)
 replace kg:=kg.later hb1
 replace kh:=kh.later hb1
 replace kr:=kr.later hb1
 replace hSz:=Nat.le_trans hSz hb1.size
 clear hb1
 clear cg0 cg1 cg2 cg3 cg4 cg5 cg6
 clear hown q0
 go_wp2_with fail
 generalize hW1:World.alloc w1 _=V1
 have hb9:=bl1 hW1
 have ko:Bk V1 w1.heap.size #[a,b,c,d,e,f,.slice (some ⟨g1,0,none⟩) n cap] 28:=bk0 hW1 rfl
 have HI:Bx (RpI w #[a,b,c,d,e,f,.slice (some ⟨pb,po,none⟩) n hcp] #[a2,b2,c2,d2,e2,f2,.slice hb ys.length hcp2] #[a,b,c,d,e,f,.slice (some ⟨g1,0,none⟩) n cap] n cap g1 w1.heap.size hb ys (fillM ⟨⟨a,b,c⟩,⟨d,e,f⟩⟩ zs (cellG ⟨⟨a2,b2,c2⟩,⟨d2,e2,f2⟩⟩ ys) (fun p=>inB p ⟨⟨a2,b2,c2⟩,⟨d2,e2,f2⟩⟩) 0) V1):=⟨by
  rw [hzero.out]
  exact ⟨kg.later hb9,kh.later hb9,kr.later hb9,ko,(Hown.out.base (by omega)).below hb9,hB.trans (hb9.mono hB.size),Hsm.out.below (hB.trans (hb9.mono hB.size)),by omega⟩⟩
 clear hW1 hb9 ko kg kh kr hB hSz hSzW Hown hg1 hzero hcpd Hsl
 generalize w1.heap.size=go at *
 go_loopw [6] (fun v6 wr => ∃ k:Nat,k≤n∧v6 = .int .i64 k∧Bx (RpI w #[a,b,c,d,e,f,.slice (some ⟨pb,po,none⟩) n hcp] #[a2,b2,c2,d2,e2,f2,.slice hb ys.length hcp2] #[a,b,c,d,e,f,.slice (some ⟨g1,0,none⟩) n cap] n cap g1 go hb ys (fillM ⟨⟨a,b,c⟩,⟨d,e,f⟩⟩ zs (cellG ⟨⟨a2,b2,c2⟩,⟨d2,e2,f2⟩⟩ ys) (fun p=>inB p ⟨⟨a2,b2,c2⟩,⟨d2,e2,f2⟩⟩) k) wr)) (fun i _=>n - (intOf i).toNat)
 case atStart=>exact ⟨0,Nat.zero_le _,rfl,HI⟩
 case round =>
  clear HI
  obtain ⟨k,hk,rfl,HI⟩:=hrel
  by_cases hlt:k<n
  · have t0:decide ((k:Int)<(n:Int))=true:=by simp;omega
    have z1:=fun W=>hat.out W k hlt
    have z2:=fun W=>hin.out W k
    have z3:=fun W=>hgt.out W k
    have z4:=hset.out k hlt
    have z5:=hstay.out k
    have z6:=hfat.out k hlt
    generalize cellG ⟨⟨a2,b2,c2⟩,⟨d2,e2,f2⟩⟩ ys=FF at *
    rcases hpt:atB ⟨⟨a,b,c⟩,⟨d,e,f⟩⟩ (k:Int) with ⟨px,py,pz⟩
    simp only [hpt] at z1 z2 z3 z4 z5
    generalize hfp:FF ⟨px,py,pz⟩=x at *
    generalize hib:inB ⟨px,py,pz⟩ ⟨⟨a2,b2,c2⟩,⟨d2,e2,f2⟩⟩=ib at *
    have z1:=Bx.mk z1
    have z2:=Bx.mk z2
    have z3:=Bx.mk z3
    have z4:=Bx.mk z4
    have z5:=Bx.mk z5
    have z6:=Bx.mk z6
    clear hpt hfp hib
    obtain ⟨cg0,cg1,cg2,cg3,cg4,cg5,cg6⟩:=HI.out.kg.c7
    go_wp2_with fail
    refine (z1.out _).mono ?_
    rintro _ w2 ⟨rfl,hb2⟩
    have HI2:=Bx.mk (HI.out.later hb2)
    have ch0 : ∀ o,(w2.alloc o).cell? ⟨w.heap.size+1,0,none⟩=some (.int .i64 a2):=fun o=>Bk.cell (blk_old HI2.out.kh) 0 rfl
    have ch1 : ∀ o,(w2.alloc o).cell? ⟨w.heap.size+1,1,none⟩=some (.int .i64 b2):=fun o=>Bk.cell (blk_old HI2.out.kh) 1 rfl
    have ch2 : ∀ o,(w2.alloc o).cell? ⟨w.heap.size+1,2,none⟩=some (.int .i64 c2):=fun o=>Bk.cell (blk_old HI2.out.kh) 2 rfl
    have ch3 : ∀ o,(w2.alloc o).cell? ⟨w.heap.size+1,3,none⟩=some (.int .i64 d2):=fun o=>Bk.cell (blk_old HI2.out.kh) 3 rfl
    have ch4 : ∀ o,(w2.alloc o).cell? ⟨w.heap.size+1,4,none⟩=some (.int .i64 e2):=fun o=>Bk.cell (blk_old HI2.out.kh) 4 rfl
    have ch5 : ∀ o,(w2.alloc o).cell? ⟨w.heap.size+1,5,none⟩=some (.int .i64 f2):=fun o=>Bk.cell (blk_old HI2.out.kh) 5 rfl
    clear HI hb2 cg0 cg1 cg2 cg3 cg4 cg5 cg6
    go_wp2_with fail
    generalize hW3:World.alloc w2 _=V3
    have hb3:=bl1 hW3
    have kp:Bk V3 w2.heap.size #[px,py,pz] 23:=bk0 hW3 rfl
    have HI3:=Bx.mk (HI2.out.later hb3)
    clear hW3 hb3 ch0 ch1 ch2 ch3 ch4 ch5 HI2
    generalize w2.heap.size=gp at *
    refine (z2.out _).mono ?_
    rintro _ w4 ⟨rfl,hb4⟩
    have HI4:=Bx.mk (HI3.out.later hb4)
    replace kp:=kp.later hb4
    clear hb4 HI3
    cases ib with
    | false =>
      have HI5:=HI4.out
      rw [z5.out rfl] at HI5
      have HI6:=Bx.mk HI5
      clear HI5
      go_wp2_with fail
      go_roundw
      case rel=>exact ⟨k+1,by omega,by go_num,HI6⟩
      case measure=>simp [intOf];omega
    | true =>
      obtain ⟨ch0,ch1,ch2,ch3,ch4,ch5,ch6⟩:=HI4.out.kh.r7
      obtain ⟨cp0,cp1,cp2⟩:=kp.r3
      have co6 : ∀ dk osk,(grow (redrawn w4 dk) osk).cell? ⟨go,6,none⟩=some (.slice (some ⟨g1,0,none⟩) n cap):=cell_regrown (HI4.out.ko.cell 6 rfl)
      have q0:=Bx.mk fun dk osk=>Calls.regrown_of (z3.out (grow (redrawn w4 dk) osk) (HI4.out.sl.below (below_regrown w4 dk osk)))
      have b1:(0:Int)≤(k:Int):=by omega
      have b2:(k:Int)<(n:Int):=by omega
      go_wp2_with fail
      refine wp_region_head_below 7 (by kernel_rfl) (by kernel_rfl) ?_
      simp only [List.take_succ_cons,List.take_zero,List.drop_succ_cons,List.drop_zero]
      repeat (first | go_big_quiet_step ((first | with_reducible exact q0.out _ _)) | quiet_step (first | with_reducible exact q0.out _ _))
      refine wpQuiet_nil ?_
      rintro _ ⟨⟨dq,osq⟩,rfl⟩
      have HI5:=Bx.mk (HI4.out.later (below_regrown w4 dq osq))
      clear q0 ch0 ch1 ch2 ch3 ch4 ch5 ch6 cp0 cp1 cp2 co6 HI4 kp
      generalize grow (redrawn w4 dq) osq=w5 at *
      have HL:=Bx.mk (hlen.out k)
      obtain ⟨g9,cap9,he9,-,-,hc9,hf9,-⟩:=HI5.out.own.at (by rw [HL.out];omega)
      rw [HL.out] at he9
      injection he9 with h91 h92 h93
      injection h91 with h91
      injection h91 with h91
      subst h91
      have ck:=hc9 k _ z6.out
      have fk:=hf9 k
      have HI6:=HI5.out.put HL.out h0 hfar.out k x
      rw [z4.out (by first | rfl | trivial)] at HI6
      have HI7:=Bx.mk HI6
      clear HI6 hc9 hf9 h92 h93
      go_wp2_with fail
      go_roundw
      case rel=>exact ⟨k+1,by omega,by go_num,HI7⟩
      case measure=>simp [intOf];omega
  · obtain rfl:k=n:=by omega
    have t0:decide ((k:Int)<(k:Int))=false:=by simp
    have HI2:=HI.out
    rw [hall.out] at HI2
    have kg:=HI2.kg
    have ko:=HI2.ko
    have kr:=HI2.kr
    have hB:=HI2.bel
    have hlo:=HI2.lt
    have hO:=HI2.own
    clear HI HI2 hall hat hin hgt hset hstay hlen hfat
    have cg6:=kg.cell 6 rfl
    obtain ⟨co0,co1,co2,co3,co4,co5,co6⟩:=ko.c7
    have cr0:=kr.cell 0 rfl
    have fr0:=kr.frozen 0
    have cr1:=kr.cell 1 rfl
    have fr1:=kr.frozen 1
    have cr2:=kr.cell 2 rfl
    have fr2:=kr.frozen 2
    have cr3:=kr.cell 3 rfl
    have fr3:=kr.frozen 3
    have cr4:=kr.cell 4 rfl
    have fr4:=kr.frozen 4
    have cr5:=kr.cell 5 rfl
    have fr5:=kr.frozen 5
    have cr6:=kr.cell 6 rfl
    have fr6:=kr.frozen 6
    have kr2:=kr.put7 (.int .i64 a) (.int .i64 b) (.int .i64 c) (.int .i64 d) (.int .i64 e) (.int .i64 f) (.slice (some ⟨g1,0,none⟩) k cap)
    have hB2:=Bx.mk (blw7 hB (show w.heap.size≤w.heap.size+1+1 by omega) (.int .i64 a) (.int .i64 b) (.int .i64 c) (.int .i64 d) (.int .i64 e) (.int .i64 f) (.slice (some ⟨g1,0,none⟩) k cap))
    have hO2:=Bx.mk (((((((hO.setBelow (a:=⟨w.heap.size+1+1,0,none⟩) (by simp only;omega) (.int .i64 a)).setBelow (a:=⟨w.heap.size+1+1,1,none⟩) (by simp only;omega) (.int .i64 b)).setBelow (a:=⟨w.heap.size+1+1,2,none⟩) (by simp only;omega) (.int .i64 c)).setBelow (a:=⟨w.heap.size+1+1,3,none⟩) (by simp only;omega) (.int .i64 d)).setBelow (a:=⟨w.heap.size+1+1,4,none⟩) (by simp only;omega) (.int .i64 e)).setBelow (a:=⟨w.heap.size+1+1,5,none⟩) (by simp only;omega) (.int .i64 f)).setBelow (a:=⟨w.heap.size+1+1,6,none⟩) (by simp only;omega) (.slice (some ⟨g1,0,none⟩) k cap))
    clear hB hO
    go_wp2_with fail
    exact bodyPost_ret (v:=.agg #[a,b,c,d,e,f,.slice (some ⟨g1,0,none⟩) k cap]) (results_cell_row rfl _ _ _ 28 #[a,b,c,d,e,f,.slice (some ⟨g1,0,none⟩) k cap] (0,0) _ rfl kr2 Tryz.underlying28 rfl (by kernel_rfl)) rfl ⟨g1,cap,rfl,hO2.out.base (by omega),hB2.out⟩
theorem ref_paste (a b c d e f a2 b2 c2 d2 e2 f2:Int) (pb po n hcp:Nat) (hb:Option Addr) (hcp2:Nat) (ys:List Int) (HS:Small ⟨⟨a,b,c⟩,⟨d,e,f⟩⟩ 1048575) (hV:volB ⟨⟨a,b,c⟩,⟨d,e,f⟩⟩=n) (h0:0<n) (hle:n≤5000) (HX:GoodG ⟨⟨a2,b2,c2⟩,⟨d2,e2,f2⟩⟩ ys hcp2) (w:World) (hsl:Sl w .i64 (some ⟨pb,po,none⟩) (List.replicate n 0)) (hsm:Sl w .i64 hb ys) :
 Calls Tryz.prog 31 #[.agg #[a,b,c,d,e,f,.slice (some ⟨pb,po,none⟩) n hcp],.agg #[a2,b2,c2,d2,e2,f2,.slice hb ys.length hcp2]] w fun e' w' => ∃ g cap,e' = .returned (.agg #[a,b,c,d,e,f,.slice (some ⟨g,0,none⟩) n cap])∧Own w' w.heap.size 3 .i64 (.slice (some ⟨g,0,none⟩) n cap) (cellsOf ⟨⟨a,b,c⟩,⟨d,e,f⟩⟩ (cellG ⟨⟨a2,b2,c2⟩,⟨d2,e2,f2⟩⟩ ys))∧Below w.heap.size w w':=by
 have hz:List.replicate n (0:Int)=cellsOf ⟨⟨a,b,c⟩,⟨d,e,f⟩⟩ fun _=>0:=by
  unfold cellsOf
  rw [hV,List.map_const',List.length_range]
  rfl
 have h:=ref_paste_any a b c d e f a2 b2 c2 d2 e2 f2 pb po n hcp hb hcp2 ys HS hV h0 hle HX (fun _=>0) _ hz w hsl hsm
 have he:(cellsOf ⟨⟨a,b,c⟩,⟨d,e,f⟩⟩ fun p=>if inB p ⟨⟨a2,b2,c2⟩,⟨d2,e2,f2⟩⟩=true then cellG ⟨⟨a2,b2,c2⟩,⟨d2,e2,f2⟩⟩ ys p else 0)=cellsOf ⟨⟨a,b,c⟩,⟨d,e,f⟩⟩ (cellG ⟨⟨a2,b2,c2⟩,⟨d2,e2,f2⟩⟩ ys):=cellsOf_congr fun p _=>by
  unfold cellG
  split <;> rfl
 rw [he] at h
 exact h
end
section
open Go.RowKit Go.Sort Go.Maps
open Oct
theorem small_can (f:Pt→Int) : ∀ (n:Nat) (a:Pt),Tr.small n (Tr.can f n a):=by
 have inn : ∀ (n d:Nat) (ch:Fin 8→Tr),(∀ i,Tr.small n (ch i))→Tr.small (n+1) (Tr.mkInner d ch):=by
  intro n d ch h
  unfold Tr.mkInner
  split
  · rename_i hc
    obtain ⟨c,hc⟩:=hc.1
    rw [hc];simp [Tr.small]
  · exact h
 intro n
 induction n with
 | zero =>
   intro a
   unfold Tr.can Tr.mkBrick
   split <;> simp [Tr.small]
 | succ n ih =>
   intro a
   unfold Tr.can
   exact inn n _ _ (fun i=>ih _)
theorem can_size {f:Pt→Int} (hf : ∀ p,0≤f p∧f p≤255) {n:Nat} (hn:n≤12) (a:Pt):(Tr.enc (Tr.can f n a)).length≤100000000000000:=by
 have h:=Tr.enc_small n _ (wf_can hf n a (by omega)) (small_can f n a)
 have:8 ^ n≤8 ^ 12:=Nat.pow_le_pow_right (by decide) hn
 omega
def cellsF (f:Pt→Int) (a:Pt):List Int:=(List.range 64).map fun k=>f (Tr.cellAt a k)
theorem cellsF_len (f:Pt→Int) (a:Pt):(cellsF f a).length=64:=by simp [cellsF]
theorem cellsF_all {f:Pt→Int} (hf : ∀ p,0≤f p∧f p≤255) (a:Pt):(cellsF f a).all Pal.cell=true:=by
 rw [List.all_eq_true]
 intro x hx
 obtain ⟨k,_,rfl⟩:=List.mem_map.1 hx
 rw [Pal.cell_eq]
 simpa using hf _
theorem can_cells (f:Pt→Int) (a:Pt):Tr.can f 0 a=Tr.mkBrick (cellsF f a):=rfl
end
section
open Go.RowKit Go.Sort Go.Maps
open Oct
theorem cube9_zero (L:Nat) (hL:L≤14) (w:World) :
 Calls Tryz.prog 35 #[.agg #[(0:Int),(0:Int),(0:Int)],(L:Int)] w fun e w'=>e = .returned (.agg #[(0:Int),(0:Int),(0:Int),.int .i64 (2 ^ L),.int .i64 (2 ^ L),.int .i64 (2 ^ L)])∧Below w.heap.size w w':=by
 have h:=cube9_any 0 0 0 L hL (by omega) (by omega) (by omega) w
 simpa only [Int.zero_add] using h
end
section
open Go.RowKit Go.Sort Go.Maps
open Oct
set_option maxRecDepth 100000 in
set_option maxHeartbeats 2000000 in
theorem ref_crop (a b c d e f a2 b2 c2 d2 e2 f2:Int) (n:Nat) (hb:Option Addr) (hcp2:Nat) (ys:List Int) (hok:okB ⟨⟨a,b,c⟩,⟨d,e,f⟩⟩=true) (he:emptyB ⟨⟨a,b,c⟩,⟨d,e,f⟩⟩=false) (hV:volB ⟨⟨a,b,c⟩,⟨d,e,f⟩⟩=n) (hle:n≤5000) (HX:GoodG ⟨⟨a2,b2,c2⟩,⟨d2,e2,f2⟩⟩ ys hcp2) (w:World) (hsm:Sl w .i64 hb ys) :
 Calls Tryz.prog 28 #[.agg #[a2,b2,c2,d2,e2,f2,.slice hb ys.length hcp2],.agg #[a,b,c,d,e,f]] w fun e' w' => ∃ g cap,e' = .returned (.tuple #[.agg #[a,b,c,d,e,f,.slice (some ⟨g,0,none⟩) n cap],(0:Int)])∧Sl w' .i64 (some ⟨g,0,none⟩) (cellsOf ⟨⟨a,b,c⟩,⟨d,e,f⟩⟩ (cellG ⟨⟨a2,b2,c2⟩,⟨d2,e2,f2⟩⟩ ys))∧Below w.heap.size w w':=by
 have hnew:=Bx.mk fun W=>ref_new a b c d e f hok he n hV hle W
 have hpos:0<n:=by have:=atB_pos he;omega
 have hpas:=Bx.mk fun (pb po cap:Nat) W (h:Sl W .i64 (some ⟨pb,po,none⟩) (List.replicate n 0)) (h':Sl W .i64 hb ys)=>ref_paste a b c d e f a2 b2 c2 d2 e2 f2 pb po n cap hb hcp2 ys (okB_small hok) hV hpos hle HX W h h'
 have Hsm:=Bx.mk hsm
 clear hok he hV HX hsm
 generalize cellsOf ⟨⟨a,b,c⟩,⟨d,e,f⟩⟩ (cellG ⟨⟨a2,b2,c2⟩,⟨d2,e2,f2⟩⟩ ys)=zs at *
 go_enter Tryz.func28,Tryz.ntmps28
 go_wp2_with fail
 generalize hW:World.alloc (World.alloc (World.alloc w _) _) _=W
 have hSz:=sz3 hW
 have hB:=bl3 hW
 have kg:Bk W (w.heap.size) #[a2,b2,c2,d2,e2,f2,.slice hb ys.length hcp2] 28:=bk2 hW
 have kc:Bk W (w.heap.size+1) #[a,b,c,d,e,f] 25:=bk1 hW
 have kr:Bk W (w.heap.size+1+1) #[(0:Int),(0:Int),(0:Int),(0:Int),(0:Int),(0:Int),.slice none 0 0] 28:=bk0 hW
 clear hW
 obtain ⟨cc0,cc1,cc2,cc3,cc4,cc5⟩:=kc.c6
 go_wp2_with fail
 refine (hnew.out _).mono ?_
 rintro _ w1 ⟨g1,cap,rfl,hown,hb1⟩
 have Hz:=Bx.mk hown.sl
 replace hB:=hB.trans (hb1.mono hB.size)
 replace kg:=kg.later hb1
 replace kc:=kc.later hb1
 replace kr:=kr.later hb1
 replace hSz:=Nat.le_trans hSz hb1.size
 clear hb1
 clear cc0 cc1 cc2 cc3 cc4 cc5
 clear hown
 have cg0 : ∀ o,(w1.alloc o).cell? ⟨w.heap.size,0,none⟩=some (.int .i64 a2):=fun o=>Bk.cell (blk_old kg) 0 rfl
 have cg1 : ∀ o,(w1.alloc o).cell? ⟨w.heap.size,1,none⟩=some (.int .i64 b2):=fun o=>Bk.cell (blk_old kg) 1 rfl
 have cg2 : ∀ o,(w1.alloc o).cell? ⟨w.heap.size,2,none⟩=some (.int .i64 c2):=fun o=>Bk.cell (blk_old kg) 2 rfl
 have cg3 : ∀ o,(w1.alloc o).cell? ⟨w.heap.size,3,none⟩=some (.int .i64 d2):=fun o=>Bk.cell (blk_old kg) 3 rfl
 have cg4 : ∀ o,(w1.alloc o).cell? ⟨w.heap.size,4,none⟩=some (.int .i64 e2):=fun o=>Bk.cell (blk_old kg) 4 rfl
 have cg5 : ∀ o,(w1.alloc o).cell? ⟨w.heap.size,5,none⟩=some (.int .i64 f2):=fun o=>Bk.cell (blk_old kg) 5 rfl
 have cg6 : ∀ o,(w1.alloc o).cell? ⟨w.heap.size,6,none⟩=some (.slice hb ys.length hcp2):=fun o=>Bk.cell (blk_old kg) 6 rfl
 go_wp2_with fail
 generalize hW3:World.alloc w1 _=V3
 have hb3:=bl1 hW3
 have Hz3:=Bx.mk (Hz.out.below hb3)
 replace hB:=hB.trans (hb3.mono hB.size)
 replace kg:=kg.later hb3
 replace kc:=kc.later hb3
 replace kr:=kr.later hb3
 replace hSz:=Nat.le_trans hSz hb3.size
 clear hb3
 clear hW3 cg0 cg1 cg2 cg3 cg4 cg5 cg6 Hz
 refine (hpas.out _ _ _ _ Hz3.out (Hsm.out.below hB)).mono ?_
 rintro _ w4 ⟨g2,cap2,rfl,hown,hb4⟩
 have hg2:=hown.lt g2 rfl
 have Hz4:=Bx.mk hown.sl
 have hSz4:=hSz
 replace hB:=hB.trans (hb4.mono hB.size)
 replace kg:=kg.later hb4
 replace kc:=kc.later hb4
 replace kr:=kr.later hb4
 replace hSz:=Nat.le_trans hSz hb4.size
 clear hb4
 obtain ⟨cr0,cr1,cr2,cr3,cr4,cr5,cr6⟩:=kr.c7
 obtain ⟨fr0,fr1,fr2,fr3,fr4,fr5,fr6⟩:=kr.f7
 clear hown Hz3
 go_wp2_with fail
 have kr2:=kr.put7 (.int .i64 a) (.int .i64 b) (.int .i64 c) (.int .i64 d) (.int .i64 e) (.int .i64 f) (.slice (some ⟨g2,0,none⟩) n cap2)
 have hB2:=Bx.mk (blw7 hB (show w.heap.size≤w.heap.size+1+1 by omega) (.int .i64 a) (.int .i64 b) (.int .i64 c) (.int .i64 d) (.int .i64 e) (.int .i64 f) (.slice (some ⟨g2,0,none⟩) n cap2))
 have hS2:=Bx.mk (sl_put7 Hz4.out (show g2 ≠ w.heap.size+1+1 by omega) (.int .i64 a) (.int .i64 b) (.int .i64 c) (.int .i64 d) (.int .i64 e) (.int .i64 f) (.slice (some ⟨g2,0,none⟩) n cap2))
 obtain ⟨z0,z1,z2,z3,z4,z5,z6⟩:=kr2.c7
 exact bodyPost_ret (v:=.tuple #[.agg #[a,b,c,d,e,f,.slice (some ⟨g2,0,none⟩) n cap2],(0:Int)]) (by simp [results,Tryz.results28,go_sem,z0,z1,z2,z3,z4,z5,z6]) rfl ⟨g2,cap2,rfl,hS2.out,hB2.out⟩
end
end Go.Proofs.YtfcbajmjaifjlaaGreat
