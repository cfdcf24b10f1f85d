/- Rcp, Ref3, Cnt, Blt, Gen, Gri: joined by program, for one claim. -/
import Derived.Test.YtgnfgblkpnfcnaaGreatDoorM19
set_option maxHeartbeats 2000000
set_option maxRecDepth 100000
set_option linter.unusedVariables false
set_option linter.unusedSimpArgs false
namespace Go.Proofs.YtgnfgblkpnfcnaaGreatDoor
section
open Go.RowKit Go.Sort Go.Maps
open Oct
attribute [local go_sem ↓] Go.wp_at_zero Go.wp_at_succ
theorem zKe (a b c d e f:Int) (pb po:Nat) (hcp n:Nat) (xs:List Int) (hn:xs.length=n) (h1:0<n) (h2:n≤5000) (w:World) (hsl:Sl w .i64 (some ⟨pb,po,none⟩) xs) :
 Calls Tryz.prog 171 #[.agg #[a,b,c,d,e,f,.slice (some ⟨pb,po,none⟩) n hcp]] w fun e' w' => ∃ g cap,e' = .returned (.agg #[a,b,c,d,e,f,.slice (some ⟨g,0,none⟩) n cap])∧Own w' w.heap.size 3 .i64 (.slice (some ⟨g,0,none⟩) n cap) xs∧Below w.heap.size w w':=by
 obtain ⟨i0,hi0,hz0,hz1,hz2⟩:=info_parts (show (Tryz.prog.info? 3).map (fun i=>(i.zero,i.size,i.bytes))=some (some (.int .i64 0),1,8) by kernel_rfl)
 have hlm:=Bx.mk (show (xs.map (Value.int .i64)).length=n * 1 by rw [List.length_map,hn];omega)
 have h1c:=Bx.mk (show ∀ u∈xs.map (Value.int .i64),u.oneCell'=true from fun u hu=>by
  obtain ⟨x,_,rfl⟩:=List.mem_map.1 hu;rfl)
 have Hsl:=Bx.mk hsl;have Hn:=Bx.mk hn;clear hsl hn;go_enter Tryz.func171,Tryz.ntmps171;go_wp2_with fail;generalize hW:World.alloc (World.alloc w _) _=W;have hSz:=sz2 hW;have hB:=bl2 hW;have kg:Bk W (w.heap.size) #[a,b,c,d,e,f,.slice (some ⟨pb,po,none⟩) n hcp] 28:=bk1 hW;have kr:Bk W (w.heap.size+1) #[(0:Int),(0:Int),(0:Int),(0:Int),(0:Int),(0:Int),.slice none 0 0] 28:=bk0 hW;clear hW;obtain ⟨cg0,cg1,cg2,cg3,cg4,cg5,cg6⟩:=kg.c7;obtain ⟨cr0,cr1,cr2,cr3,cr4,cr5,cr6⟩:=kr.c7;obtain ⟨fr0,fr1,fr2,fr3,fr4,fr5,fr6⟩:=kr.f7
 have hnw:=Bx.mk fun (V:World) (hV:Below W.heap.size W V)=>(show ∀ j u,(xs.map (Value.int .i64))[j]? = some u→V.cell? ((⟨pb,po,none⟩:Addr).add j)=some u from fun j u hu=>by
  rw [List.getElem?_map] at hu;cases hx:xs[j]? with
  | none=>rw [hx] at hu;cases hu
  | some x =>
    rw [hx] at hu;injection hu with hu;subst hu;obtain ⟨b',off',he,hc⟩:=(Hsl.out.below (hB.trans (hV.mono hB.size))) j x hx;simp only [Option.some.injEq,Addr.mk.injEq,and_true] at he;obtain ⟨rfl,rfl⟩:=he;have:(⟨pb,po,none⟩:Addr).add j=⟨pb,po+j,none⟩:=by unfold Addr.add;split <;> simp_all
    rw [this];exact hc)
 go_region_held3 (fun w'=>w'.cell? ⟨w.heap.size,0,none⟩=some (.int .i64 a)∧w'.cell? ⟨w.heap.size,1,none⟩=some (.int .i64 b)∧w'.cell? ⟨w.heap.size,2,none⟩=some (.int .i64 c)∧w'.cell? ⟨w.heap.size,3,none⟩=some (.int .i64 d)∧w'.cell? ⟨w.heap.size,4,none⟩=some (.int .i64 e)∧w'.cell? ⟨w.heap.size,5,none⟩=some (.int .i64 f)∧w'.cell? ⟨w.heap.size,6,none⟩=some (.slice (some ⟨pb,po,none⟩) n hcp))
  (first | go_keep | (dsimp only;and_intros <;> assumption))
  ((refine step_append_lies _ (by rfl) (.tmp 6) (.tmp 8) 26 (by rfl) (w.heap.size+1+1) 3 i0 (.int .i64 0) 1 8 Tryz.underlying26 hi0 hz0 hz1 hz2 rfl (by omega) (.slice none 0 0) 0 [] (by simp [Act.eval,Act.put]) (World.ownsRow_nil _ _ _ _) ⟨pb,po,none⟩ n hcp (xs.map (Value.int .i64)) (by simp [Act.eval,Act.put]) hlm.out (hnw.out _ (Below.refl _ _).drew) h1c.out h1 (by simp only [maxLen];omega) (by omega) hSz W.heap.size rfl ?_;intro g cap w1 hown hg hat hlt;have hb9:=((Below.refl W.heap.size W).drew).grown hg (Nat.le_refl _) (fun g h=>by cases h);have kg9:=kg.later hb9;have kr9:=kr.later hb9;have d0:=kg9.cell 0 rfl;have d1:=kg9.cell 1 rfl;have d2:=kg9.cell 2 rfl;have d3:=kg9.cell 3 rfl;have d4:=kg9.cell 4 rfl;have d5:=kg9.cell 5 rfl;have d6:=kg9.cell 6 rfl;have e0:=kr9.cell 0 rfl;have h0:=kr9.frozen 0;have e1:=kr9.cell 1 rfl;have h1:=kr9.frozen 1;have e2:=kr9.cell 2 rfl;have h2:=kr9.frozen 2;have e3:=kr9.cell 3 rfl;have h3:=kr9.frozen 3;have e4:=kr9.cell 4 rfl;have h4:=kr9.frozen 4;have e5:=kr9.cell 5 rfl;have h5:=kr9.frozen 5;have e6:=kr9.cell 6 rfl;have h6:=kr9.frozen 6))
 have hO:Own w1 (w.heap.size+1+1) 3 .i64 (.slice (some ⟨g,0,none⟩) n cap) xs:=by
  have hown2:=hown;simp only [Nat.zero_add,List.nil_append] at hown2;unfold Own;rw [Hn.out];exact hown2
 have kr2:=kr9.put7 (.int .i64 a) (.int .i64 b) (.int .i64 c) (.int .i64 d) (.int .i64 e) (.int .i64 f) (.slice (some ⟨g,0,none⟩) n cap);have hB2:=zBj (hB.trans (hb9.mono hB.size)) (show w.heap.size≤w.heap.size+1 by omega) (.int .i64 a) (.int .i64 b) (.int .i64 c) (.int .i64 d) (.int .i64 e) (.int .i64 f) (.slice (some ⟨g,0,none⟩) n cap)
 have hO2:Own _ (w.heap.size+1+1) 3 .i64 (.slice (some ⟨g,0,none⟩) n cap) xs:=((((((hO.setBelow (a:=⟨w.heap.size+1,0,none⟩) (by simp only;omega) (.int .i64 a)).setBelow (a:=⟨w.heap.size+1,1,none⟩) (by simp only;omega) (.int .i64 b)).setBelow (a:=⟨w.heap.size+1,2,none⟩) (by simp only;omega) (.int .i64 c)).setBelow (a:=⟨w.heap.size+1,3,none⟩) (by simp only;omega) (.int .i64 d)).setBelow (a:=⟨w.heap.size+1,4,none⟩) (by simp only;omega) (.int .i64 e)).setBelow (a:=⟨w.heap.size+1,5,none⟩) (by simp only;omega) (.int .i64 f)).setBelow (a:=⟨w.heap.size+1,6,none⟩) (by simp only;omega) (.slice (some ⟨g,0,none⟩) n cap)
 clear hg hat hown hO kr9 kg9 kr kg d0 d1 d2 d3 d4 d5 d6 e0 e1 e2 e3 e4 e5 e6 h0 h1 h2 h3 h4 h5 h6 cg0 cg1 cg2 cg3 cg4 cg5 cg6 cr0 cr1 cr2 cr3 cr4 cr5 cr6 fr0 fr1 fr2 fr3 fr4 fr5 fr6;go_wp2_with fail;exact bodyPost_ret (v:=.agg #[a,b,c,d,e,f,.slice (some ⟨g,0,none⟩) n cap]) (results_cell_row rfl _ _ _ 28 #[a,b,c,d,e,f,.slice (some ⟨g,0,none⟩) n cap] (0,0) _ rfl kr2 Tryz.underlying28 rfl (by kernel_rfl)) rfl ⟨g,cap,rfl,hO2.base (by omega),hB2⟩
end
section
open Go.RowKit Go.Sort Go.Maps
open Oct
theorem zKj (a b c d e f px py pz:Int) (ha:Option Addr) (hcp:Nat) (xs:List Int) (HX:GoodG ⟨⟨a,b,c⟩,⟨d,e,f⟩⟩ xs hcp) (hin:inB ⟨px,py,pz⟩ ⟨⟨a,b,c⟩,⟨d,e,f⟩⟩=false) (w:World) (_hsl:Sl w .i64 ha xs) :
 Calls Tryz.prog 30 #[.agg #[a,b,c,d,e,f,.slice ha xs.length hcp],.agg #[px,py,pz]] w fun e' w'=>e' = .returned (.int .i64 (zF ⟨⟨a,b,c⟩,⟨d,e,f⟩⟩ xs ⟨px,py,pz⟩))∧Below w.heap.size w w':=by
 have hi:=Bx.mk (fun W=>zKl a b c d e f px py pz HX.small W);rw [show zY ⟨⟨a,b,c⟩,⟨d,e,f⟩⟩ ⟨px,py,pz⟩ = -1 by unfold zY;rw [if_neg (by simp [hin])]] at hi
 rw [show zF ⟨⟨a,b,c⟩,⟨d,e,f⟩⟩ xs ⟨px,py,pz⟩=0 by unfold zF;rw [if_neg (by simp [hin])]]
 clear hin HX _hsl;go_enter Tryz.func30,Tryz.ntmps30;go_wp2_with fail;generalize hW:World.alloc (World.alloc w _) _=W;have hSz:=sz2 hW;have hB:=bl2 hW;have kg:Bk W (w.heap.size) #[a,b,c,d,e,f,.slice ha xs.length hcp] 28:=bk1 hW;have kp:Bk W (w.heap.size+1) #[px,py,pz] 23:=bk0 hW;clear hW;refine (hi.out _).mono ?_;rintro e1 w1 ⟨rfl,hb⟩;replace hB:=hB.trans (hb.mono hB.size);replace kg:=kg.later hb;replace kp:=kp.later hb;replace hSz:=Nat.le_trans hSz hb.size;clear hb;obtain ⟨cg0,cg1,cg2,cg3,cg4,cg5,cg6⟩:=kg.c7;go_wp2_with fail;go_ret;exact ⟨rfl,hB⟩
theorem zKi (a b c d e f px py pz:Int) (ha:Option Addr) (hcp:Nat) (xs:List Int) (HX:GoodG ⟨⟨a,b,c⟩,⟨d,e,f⟩⟩ xs hcp) (hin:inB ⟨px,py,pz⟩ ⟨⟨a,b,c⟩,⟨d,e,f⟩⟩=true) (w:World) (hsl:Sl w .i64 ha xs) :
 Calls Tryz.prog 30 #[.agg #[a,b,c,d,e,f,.slice ha xs.length hcp],.agg #[px,py,pz]] w fun e' w'=>e' = .returned (.int .i64 (zF ⟨⟨a,b,c⟩,⟨d,e,f⟩⟩ xs ⟨px,py,pz⟩))∧Below w.heap.size w w':=by
 have hi:=Bx.mk (fun W=>zKl a b c d e f px py pz HX.small W);have hbd:=zZ hin;have hl:=HX.len;have hlt:(zY ⟨⟨a,b,c⟩,⟨d,e,f⟩⟩ ⟨px,py,pz⟩).toNat<xs.length:=by omega
 have hc:zF ⟨⟨a,b,c⟩,⟨d,e,f⟩⟩ xs ⟨px,py,pz⟩=xs[(zY ⟨⟨a,b,c⟩,⟨d,e,f⟩⟩ ⟨px,py,pz⟩).toNat]:=by unfold zF;rw [if_pos hin,Tr.getD_el hlt]
 have hx:=List.getElem?_eq_getElem hlt;rw [←hc] at hx;have hle:=HX.le;obtain ⟨kk,hkk⟩:=Int.eq_ofNat_of_zero_le hbd.1;rw [hkk] at hi;rw [hkk,Int.toNat_natCast] at hx hlt;have hx:=Bx.mk hx;have hsl:=Bx.mk hsl;have b1:(0:Int)≤(kk:Int):=by omega
 have b2:(kk:Int)<(xs.length:Int):=by omega
 generalize zF ⟨⟨a,b,c⟩,⟨d,e,f⟩⟩ xs ⟨px,py,pz⟩=r at *;clear hbd hl hc hkk hin HX;go_enter Tryz.func30,Tryz.ntmps30;go_wp2_with fail;generalize hW:World.alloc (World.alloc w _) _=W;have hSz:=sz2 hW;have hB:=bl2 hW;have kg:Bk W (w.heap.size) #[a,b,c,d,e,f,.slice ha xs.length hcp] 28:=bk1 hW;have kp:Bk W (w.heap.size+1) #[px,py,pz] 23:=bk0 hW;clear hW;refine (hi.out _).mono ?_;rintro e1 w1 ⟨rfl,hb⟩;replace hB:=hB.trans (hb.mono hB.size);replace kg:=kg.later hb;replace kp:=kp.later hb;replace hSz:=Nat.le_trans hSz hb.size;clear hb;obtain ⟨cg0,cg1,cg2,cg3,cg4,cg5,cg6⟩:=kg.c7;obtain ⟨bb,off,rfl,hcell⟩:=(hsl.out.below hB) _ _ hx.out;generalize xs.length=n at *;go_wp2_with fail;go_ret;exact ⟨rfl,hB⟩
theorem zKh (a b c d e f px py pz:Int) (ha:Option Addr) (hcp:Nat) (xs:List Int) (HX:GoodG ⟨⟨a,b,c⟩,⟨d,e,f⟩⟩ xs hcp) (w:World) (hsl:Sl w .i64 ha xs) :
 Calls Tryz.prog 30 #[.agg #[a,b,c,d,e,f,.slice ha xs.length hcp],.agg #[px,py,pz]] w fun e' w'=>e' = .returned (.int .i64 (zF ⟨⟨a,b,c⟩,⟨d,e,f⟩⟩ xs ⟨px,py,pz⟩))∧Below w.heap.size w w':=by
 cases hin:inB ⟨px,py,pz⟩ ⟨⟨a,b,c⟩,⟨d,e,f⟩⟩ with
 | false=>exact zKj a b c d e f px py pz ha hcp xs HX hin w hsl
 | true=>exact zKi a b c d e f px py pz ha hcp xs HX hin w hsl
def zEP (b:Box) (xs:List Int) (dd:Int):Int:=if dd<2∨14<dd then 13 else if zAB b xs=true∧(zN b=true∨zJ ⟨⟨0,0,0⟩,⟨2 ^ dd.toNat,2 ^ dd.toNat,2 ^ dd.toNat⟩⟩ b=true) then 0 else 1
theorem zEi {b:Box} {xs:List Int} {hcp:Nat} (h:zAB b xs=true) (hl:xs.length≤300) (hc:xs.length≤hcp):GoodG b xs hcp:=by
 simp only [zAB,Bool.and_eq_true,decide_eq_true_eq] at h;obtain ⟨⟨⟨⟨h1,_⟩,_⟩,h2⟩,h3⟩:=h;exact ⟨zk h1,by omega,hl,zA8 h3,hc⟩
theorem zEQ {b:Box} {xs:List Int} {dd:Int} (h:zEP b xs dd=0) : ∃ n:Nat,n≤12∧dd=(n:Int)+2∧zAB b xs=true∧(zN b=true∨zJ ⟨⟨0,0,0⟩,⟨2 ^ (n+2),2 ^ (n+2),2 ^ (n+2)⟩⟩ b=true):=by
 unfold zEP at h;split at h
 · cases h
 · rename_i h1;split at h
   · rename_i h2;refine ⟨(dd - 2).toNat,by omega,by omega,h2.1,?_⟩
     rw [show (dd - 2).toNat+2=dd.toNat by omega]
     exact h2.2
   · cases h
theorem zET (w:World) (sb:Nat) (a b c d e f:Int) (ha:Option Addr) (hcp:Nat) (xs:List Int) (n:Nat) (hn:n≤12) (hsl:Sl w .i64 ha xs) (HX:GoodH ⟨⟨a,b,c⟩,⟨d,e,f⟩⟩ xs hcp) (hV:zAB ⟨⟨a,b,c⟩,⟨d,e,f⟩⟩ xs=true) (hC:zN ⟨⟨a,b,c⟩,⟨d,e,f⟩⟩=true∨zJ ⟨⟨0,0,0⟩,⟨2 ^ (n+2),2 ^ (n+2),2 ^ (n+2)⟩⟩ ⟨⟨a,b,c⟩,⟨d,e,f⟩⟩=true)
 (Far:Nat→Prop) (hfx:xs ≠ [] → ∀ b,ha.map (·.block)=some b→Far b) (most:Int) (ts:List Tr) (hG:Good ts) (hlen:ts.length≤100000000000) (hFar : ∀ k,Far k→k<w.heap.size) (hS:StoreIs w Far sb most ts) :
 Calls Tryz.prog 38 #[.pointer (some ⟨sb,0,none⟩),.agg #[a,b,c,d,e,f,.slice ha xs.length hcp],.int .i64 ((n:Int)+2)] w (Done Far sb most ts (Tr.add (Tr.can (zF ⟨⟨a,b,c⟩,⟨d,e,f⟩⟩ xs) n ⟨0,0,0⟩) ts) (Tr.can (zF ⟨⟨a,b,c⟩,⟨d,e,f⟩⟩ xs) n ⟨0,0,0⟩) w):=by
 have hl:=zCC (f:=zF ⟨⟨a,b,c⟩,⟨d,e,f⟩⟩ xs) hn ⟨0,0,0⟩ ts;have hxl:=HX.le;cases hEm:zN ⟨⟨a,b,c⟩,⟨d,e,f⟩⟩ with
 | true=>exact zES w sb a b c d e f ha hcp xs n hn _ rfl (by omega) hsl HX hV hEm Far hfx most ts hG (by omega) hFar hS
 | false =>
   rw [hEm] at hC;exact zER w sb a b c d e f ha hcp xs n hn _ rfl (by omega) hsl HX hV hEm (hC.resolve_left (by simp)) Far hfx most ts hG (by omega) hFar hS
end
section
open Oct
open Classical in
noncomputable def cn (L:List Pt) (n:Nat) (a:Pt):Nat:=(L.filter fun p=>decide (Tr.InC n a p)).length
open Classical in
theorem zCm (p:Pt) (L:List Pt) (n:Nat) (a:Pt):cn (p::L) n a=(if Tr.InC n a p then 1 else 0)+cn L n a:=by
 unfold cn;rw [List.filter_cons];by_cases h:Tr.InC n a p
 · simp [h];omega
 · simp [h]
theorem one_of (k:Fin 8):(List.ofFn fun i:Fin 8=>if i=k then (1:Nat) else 0).sum=1:=by revert k;decide
theorem zM4 {f g:Fin 8→Nat} (h : ∀ i,f i≤g i):(List.ofFn f).sum≤(List.ofFn g).sum:=by
 have h0:=h 0;have h1:=h 1;have h2:=h 2;have h3:=h 3;have h4:=h 4;have h5:=h 5;have h6:=h 6;have h7:=h 7;simp only [List.ofFn_succ,List.ofFn_zero,List.sum_cons,List.sum_nil];simp only [Fin.reduceSucc,Fin.isValue] at *;omega
theorem zM2 (f g:Fin 8→Nat):(List.ofFn fun i=>f i+g i).sum=(List.ofFn f).sum+(List.ofFn g).sum:=by
 simp only [List.ofFn_succ,List.ofFn_zero,List.sum_cons,List.sum_nil];omega
theorem zM5:(List.ofFn fun _:Fin 8=>(0:Nat)).sum=0:=by decide
theorem zCn (n:Nat) (a:Pt) (ha:Tr.Al (n+1) a) : ∀ L:List Pt,(List.ofFn fun i:Fin 8=>cn L n (Tr.cor a n i.val)).sum≤cn L (n+1) a
 | [] => by
   have : ∀ i:Fin 8,cn [] n (Tr.cor a n i.val)=0:=fun i=>by simp [cn]
   simp only [this];rw [zM5];omega
 | p :: L => by
   classical
   have ih:=zCn n a ha L;have e : ∀ i:Fin 8,cn (p::L) n (Tr.cor a n i.val)=(if Tr.InC n (Tr.cor a n i.val) p then 1 else 0)+cn L n (Tr.cor a n i.val):=fun i=>zCm p L n _;simp only [e];rw [zM2,zCm]
   have h1:(List.ofFn fun i:Fin 8=>if Tr.InC n (Tr.cor a n i.val) p then 1 else 0).sum≤if Tr.InC (n+1) a p then 1 else 0:=by
    by_cases h:Tr.InC (n+1) a p
    · rw [if_pos h]
      have:=zM4 (f:=fun i:Fin 8=>if Tr.InC n (Tr.cor a n i.val) p then 1 else 0) (g:=fun i:Fin 8=>if i=Tr.oct n p then 1 else 0) (fun i=>by
       by_cases hi:Tr.InC n (Tr.cor a n i.val) p
       · rw [if_pos hi,if_pos (Tr.inC_other ha hi).1];omega
       · rw [if_neg hi];omega)
      rw [one_of] at this;exact this
    · rw [if_neg h]
      have:=zM4 (f:=fun i:Fin 8=>if Tr.InC n (Tr.cor a n i.val) p then 1 else 0) (g:=fun _=>0) (fun i=>by
       by_cases hi:Tr.InC n (Tr.cor a n i.val) p
       · exact absurd (Tr.inC_other ha hi).2 h
       · rw [if_neg hi];omega)
      rw [zM5] at this;exact this
   omega
theorem cn_le (L:List Pt) (n:Nat) (a:Pt):cn L n a≤L.length:=by unfold cn;exact List.length_filter_le _ _
theorem zCo {L:List Pt} {n:Nat} {a p:Pt} (h:p∈L) (h':Tr.InC n a p):0<cn L n a:=by
 classical
 unfold cn;exact List.length_pos_of_mem (List.mem_filter.2 ⟨h,by simpa using h'⟩)
open Classical in
noncomputable def phi (ts:List Tr):Nat:=ts.length+if Tr.uni 0∈ts then 0 else 1
theorem zJh (ts:List Tr):ts.length≤phi ts∧phi ts≤ts.length+1:=by unfold phi;split <;> omega
theorem zJg (t:Tr) (ts:List Tr):phi (Tr.ins t ts)≤phi ts+1:=by
 by_cases h:t∈ts
 · rw [Tr.ins_of_mem h];omega
 · rw [Tr.ins_of_not h];unfold phi;rw [List.length_append,List.length_singleton];by_cases h0:Tr.uni 0∈ts
   · rw [if_pos h0,if_pos (by simp [h0])];omega
   · rw [if_neg h0];split <;> omega
theorem zJi (ts:List Tr):phi (Tr.add (.uni 0) ts)≤phi ts:=by
 rw [Tr.add_uni];by_cases h:Tr.uni 0∈ts
 · rw [Tr.ins_of_mem h];omega
 · rw [Tr.ins_of_not h];unfold phi;rw [if_neg h,if_pos (by simp),List.length_append,List.length_singleton];omega
theorem zJf {f:Pt→Int} (hf : ∀ p,0≤f p∧f p≤255) (L:List Pt) : ∀ (n:Nat) (a:Pt) (ts:List Tr),n≤200→Tr.Al n a→Good ts→(∀ p,Tr.InC n a p→f p ≠ 0→p∈L) →
 phi (Tr.add (Tr.can f n a) ts)≤phi ts+(n+1) * cn L n a:=by
 intro n
 induction n with
 | zero =>
   intro a ts hn ha hG hL;by_cases hc:cn L 0 a=0
   · rw [zCG 0 a f ha (fun p hp=>Classical.byContradiction fun h=>by have:=zCo (hL p hp h) hp;omega)]
     have:=zJi ts;omega
   · have h1:phi (Tr.add (Tr.can f 0 a) ts)≤phi ts+1:=by
      unfold Tr.can Tr.mkBrick;split
      · rw [Tr.add_uni];exact zJg _ _
      · rw [Tr.add_brick];exact zJg _ _
     omega
 | succ n ih =>
   intro a ts hn ha hG hL;by_cases hc:cn L (n+1) a=0
   · rw [zCG (n+1) a f ha (fun p hp=>Classical.byContradiction fun h=>by have:=zCo (hL p hp h) hp;omega)]
     have:=zJi ts;omega
   · have hW : ∀ i:Fin 8,Tr.WF (Tr.can f n (Tr.cor a n i.val)):=fun i=>zAD hf n _ (by omega)
     have key : ∀ k,k≤8→phi (Tr.addK (fun i:Fin 8=>Tr.can f n (Tr.cor a n i.val)) k ts)≤phi ts+(n+1) * ((List.ofFn fun i:Fin 8=>cn L n (Tr.cor a n i.val)).take k).sum:=by
      intro k
      induction k with
      | zero=>intro _;rw [Tr.addK_zero];simp
      | succ k ihk =>
        intro hk;rw [Tr.addK_succ _ (by omega)]
        have h2:=ihk (by omega)
        have h1:=ih (Tr.cor a n k) (Tr.addK (fun i:Fin 8=>Tr.can f n (Tr.cor a n i.val)) k ts) (by omega) (Tr.al_cor ha k) (zEk hG hW k (by omega)) (fun p hp h=>hL p (Tr.inC_other ha (i:=⟨k,by omega⟩) hp).2 h)
        rw [List.take_succ_eq_append_getElem (by simpa using (show k<8 by omega)),List.sum_append]
        simp only [List.getElem_ofFn,List.sum_cons,List.sum_nil,Nat.add_zero];rw [Nat.mul_add];omega
     have h8:=key 8 (Nat.le_refl _);rw [List.take_of_length_le (by simp)] at h8
     have hk:=Nat.mul_le_mul_left (n+1) (zCn n a ha L)
     have hin:phi (Tr.add (Tr.can f (n+1) a) ts)≤phi (Tr.addK (fun i:Fin 8=>Tr.can f n (Tr.cor a n i.val)) 8 ts)+1:=by
      show phi (Tr.add (Tr.mkInner (n+3) fun i=>Tr.can f n (Tr.cor a n i.val)) ts)≤_
      rw [Tr.inner_add hG.closed];split
      · omega
      · exact zJg _ _
     have e:(n+1+1) * cn L (n+1) a=(n+1) * cn L (n+1) a+cn L (n+1) a:=Nat.succ_mul _ _;omega
def zJv (b:Box):List Pt:=(List.range (zAC b).toNat).map fun i:Nat=>atB b (i:Int)
theorem zHw {b:Box} {p:Pt} (h:inB p b=true):p∈zJv b:=by
 have hi:=zZ h;refine List.mem_map.2 ⟨(zY b p).toNat,List.mem_range.2 (by omega),?_⟩
 rw [Int.toNat_of_nonneg hi.1,zBS h]
theorem zCA {b:Box} {xs:List Int} {hcp n:Nat} (HX:GoodG b xs hcp) (hn:n≤12) {ts:List Tr} (hG:Good ts):(Tr.add (Tr.can (zF b xs) n ⟨0,0,0⟩) ts).length≤ts.length+3901:=by
 have h1:=zJf HX.range (zJv b) n ⟨0,0,0⟩ ts (by omega) (zA7 n) hG (fun p _ h=>zHw (by
  cases hp:inB p b with
  | true=>rfl
  | false=>exact absurd (by unfold zF;rw [if_neg (by simp [hp])]) h))
 have h2:=cn_le (zJv b) n ⟨0,0,0⟩
 have h3:(zJv b).length≤300:=by
  unfold zJv;rw [List.length_map,List.length_range,←HX.len];exact HX.le
 have h4:=(zJh (Tr.add (Tr.can (zF b xs) n ⟨0,0,0⟩) ts)).1;have h5:=(zJh ts).2;have h6:(n+1) * cn (zJv b) n ⟨0,0,0⟩≤13 * 300:=Nat.mul_le_mul (by omega) (by omega)
 omega
end
section
open Go.RowKit Go.Sort Go.Maps
open Oct
theorem zEm:Good []:=⟨Tr.Closed.nil,fun t h=>by cases h⟩
end
section
open Go.RowKit
open Oct
structure FnC (n:Nat) (f:Pt→Int):Prop where
 range : ∀ p,0≤f p∧f p≤255
 out : ∀ p,inB p (zL (2 ^ (n+2)))=false→f p=0
noncomputable abbrev trF (n:Nat) (f:Pt→Int):Tr:=Tr.can f n ⟨0,0,0⟩
theorem zFK {n:Nat} {p:Pt} (h:inB p (zL (2 ^ (n+2)))=true):Tr.InC n ⟨0,0,0⟩ p:=by
 have hl:=zX.1 h;simp only [zL,Pt.zero] at hl;unfold Tr.InC;simp only [Int.zero_ediv];refine ⟨Int.ediv_eq_zero_of_lt (by omega) (by omega),Int.ediv_eq_zero_of_lt (by omega) (by omega),Int.ediv_eq_zero_of_lt (by omega) (by omega)⟩
theorem zFR {n:Nat} {p:Pt} (h:Tr.InC n ⟨0,0,0⟩ p):inB p (zL (2 ^ (n+2)))=true:=by
 have:=zFJ (m:=2 ^ (n+2)) rfl (zA7 n) h;simpa [zL,Pt.zero] using this
theorem FnC.upd {n:Nat} {f:Pt→Int} (h:FnC n f) {p:Pt} (hI:inB p (zL (2 ^ (n+2)))=true) {c:Int} (hc:0≤c∧c≤255):FnC n (Tr.upd f p c):=by
 refine ⟨fun q=>?_,fun q hq=>?_⟩
 · unfold Tr.upd;split
   · exact hc
   · exact h.range q
 · unfold Tr.upd;split
   · rename_i e;rw [e,hI] at hq;cases hq
   · exact h.out q hq
theorem zEp {b:Box} {xs:List Int} {hcp n:Nat} (HX:GoodG b xs hcp) (hC:zN b=true∨zJ ⟨⟨0,0,0⟩,⟨2 ^ (n+2),2 ^ (n+2),2 ^ (n+2)⟩⟩ b=true):FnC n (zF b xs):=by
 refine ⟨HX.range,fun p hp=>?_⟩;cases hb:inB p b with
 | false=>unfold zF;rw [if_neg (by simp [hb])]
 | true =>
   exfalso;have h1:=zX.1 hb;rcases hC with hC | hC
   · have:=zDs.1 hC;omega
   · unfold zJ at hC;rw [Bool.or_eq_true] at hC;rcases hC with hC | hC
     · have:=zDs.1 hC;omega
     · have h2:inB p (zf ⟨⟨0,0,0⟩,⟨2 ^ (n+2),2 ^ (n+2),2 ^ (n+2)⟩⟩ b)=true:=by rw [of_decide_eq_true hC];exact hb
       have h3:inB p (zL (2 ^ (n+2)))=true:=zX.2 (by
        unfold zf at h2;split at h2
        · have:=zX.1 h2;simp only [Box.zero,Pt.zero] at this;omega
        · have:=zX.1 h2;simp only [zFn] at this;simp only [zL,Pt.zero];omega)
       rw [hp] at h3;cases h3
theorem zEh {n:Nat} {f:Pt→Int} {p:Pt} (hI:inB p (zL (2 ^ (n+2)))=true):Tr.getT (trF n f) n p=f p:=Tr.get_can f n _ p (zA7 n) (zFK hI)
theorem zEl {n:Nat} {f:Pt→Int} (hn:n≤12) (hF:FnC n f) {ts:List Tr} (hG:Good ts):Good (Tr.add (trF n f) ts):=zEj _ hG (zAD hF.range n _ (by omega))
theorem get_fn (w:World) (Far:Nat→Prop) (sb:Nat) (most:Int) (ts:List Tr) (n:Nat) (f:Pt→Int) (hn:n≤12) (hF:FnC n f) (hG:Good ts) (hlen:ts.length≤1000000000000) (ht:trF n f∈ts) (px py pz:Int) (hS:StoreIs w Far sb most ts) :
 Calls Tryz.prog 55 #[.pointer (some ⟨sb,0,none⟩),(idT ts (trF n f):Int),.int .i64 ((n:Int)+2),.agg #[px,py,pz]] w fun e w'=>e = .returned (.int .i64 (f ⟨px,py,pz⟩))∧Below w.heap.size w w':=by
 cases hI:inB ⟨px,py,pz⟩ (zL (2 ^ (n+2))) with
 | false =>
   rw [hF.out _ hI];have:=zEg w sb (idT ts (trF n f):Int) (n+2) (by omega) px py pz hI
   rwa [show ((n+2:Nat):Int)=(n:Int)+2 by omega] at this
 | true =>
   have:=zEf w Far sb most ts (trF n f) ht n hn (zDP f n _) hG hlen px py pz hI hS;rwa [zEh hI] at this
end
section
open Go.RowKit Go.Sort Go.Maps
open Oct
theorem zME {w:World} {k:IntKind} {g r off:Nat} {xs:List Int} (h:Sl w k (some ⟨g,off,none⟩) xs) (hne:g ≠ r) (x0 x1 x2 x3 x4 x5 x6:Value) :
 Sl (((((((w.setCell ⟨r,0,none⟩ x0).setCell ⟨r,1,none⟩ x1).setCell ⟨r,2,none⟩ x2).setCell ⟨r,3,none⟩ x3).setCell ⟨r,4,none⟩ x4).setCell ⟨r,5,none⟩ x5).setCell ⟨r,6,none⟩ x6) k (some ⟨g,off,none⟩) xs:=by
 have one : ∀ (w:World) (j:Nat) (x:Value),Sl w k (some ⟨g,off,none⟩) xs→Sl (w.setCell ⟨r,j,none⟩ x) k (some ⟨g,off,none⟩) xs:=fun w j x h=>h.grown (zS w ⟨r,j,none⟩ x) hne;exact one _ _ _ (one _ _ _ (one _ _ _ (one _ _ _ (one _ _ _ (one _ _ _ (one _ _ _ h))))))
end
end Go.Proofs.YtgnfgblkpnfcnaaGreatDoor
