/- Ref3, Cnt, Blt, Gen, CanP, ShaP, Tfn: joined by program, for one claim. -/
import Derived.Test.YtfcbajmjaifjlaaGreatDoorM13
set_option linter.unusedVariables false
set_option linter.unusedSimpArgs false
namespace Go.Proofs.YtfcbajmjaifjlaaGreatDoor
section
open Go.RowKit Go.Sort Go.Maps
open Oct
theorem zGK (a b c d e f px py pz:Int) (ha:Option Addr) (hcp:Nat) (xs:List Int) (HX:GoodG ⟨⟨a,b,c⟩,⟨d,e,f⟩⟩ xs hcp) (hin:inB ⟨px,py,pz⟩ ⟨⟨a,b,c⟩,⟨d,e,f⟩⟩=false) (w:World) (_hsl:Sl w .i64 ha xs) :
 Calls Tryz.prog 162 #[.agg #[a,b,c,d,e,f,.slice ha xs.length hcp],.agg #[px,py,pz]] w fun e' w'=>e' = .returned (.int .i64 (zF ⟨⟨a,b,c⟩,⟨d,e,f⟩⟩ xs ⟨px,py,pz⟩))∧Below w.heap.size w w':=by
 have hi:=Bx.mk (fun W=>zFQ a b c d e f px py pz HX.small W);rw [show zT ⟨⟨a,b,c⟩,⟨d,e,f⟩⟩ ⟨px,py,pz⟩ = -1 by unfold zT;rw [if_neg (by simp [hin])]] at hi
 rw [show zF ⟨⟨a,b,c⟩,⟨d,e,f⟩⟩ xs ⟨px,py,pz⟩=0 by unfold zF;rw [if_neg (by simp [hin])]]
 clear hin HX _hsl;go_enter Tryz.func162,Tryz.ntmps162;go_wp2_with fail;generalize hW:World.alloc (World.alloc w _) _=W;have hSz:=sz2 hW;have hB:=bl2 hW;have kg:Bk W (w.heap.size) #[a,b,c,d,e,f,.slice ha xs.length hcp] 28:=bk1 hW;have kp:Bk W (w.heap.size+1) #[px,py,pz] 23:=bk0 hW;clear hW;refine (hi.out _).mono ?_;rintro e1 w1 ⟨rfl,hb⟩;replace hB:=hB.trans (hb.mono hB.size);replace kg:=kg.later hb;replace kp:=kp.later hb;replace hSz:=Nat.le_trans hSz hb.size;clear hb;obtain ⟨cg0,cg1,cg2,cg3,cg4,cg5,cg6⟩:=kg.c7;go_wp2_with fail;go_ret;exact ⟨rfl,hB⟩
theorem zHx (a b c d e f px py pz:Int) (ha:Option Addr) (hcp:Nat) (xs:List Int) (HX:GoodG ⟨⟨a,b,c⟩,⟨d,e,f⟩⟩ xs hcp) (hin:inB ⟨px,py,pz⟩ ⟨⟨a,b,c⟩,⟨d,e,f⟩⟩=true) (w:World) (hsl:Sl w .i64 ha xs) :
 Calls Tryz.prog 162 #[.agg #[a,b,c,d,e,f,.slice ha xs.length hcp],.agg #[px,py,pz]] w fun e' w'=>e' = .returned (.int .i64 (zF ⟨⟨a,b,c⟩,⟨d,e,f⟩⟩ xs ⟨px,py,pz⟩))∧Below w.heap.size w w':=by
 have hi:=Bx.mk (fun W=>zFQ a b c d e f px py pz HX.small W);have hbd:=ze hin;have hl:=HX.len;have hlt:(zT ⟨⟨a,b,c⟩,⟨d,e,f⟩⟩ ⟨px,py,pz⟩).toNat<xs.length:=by omega
 have hc:zF ⟨⟨a,b,c⟩,⟨d,e,f⟩⟩ xs ⟨px,py,pz⟩=xs[(zT ⟨⟨a,b,c⟩,⟨d,e,f⟩⟩ ⟨px,py,pz⟩).toNat]:=by unfold zF;rw [if_pos hin,Tr.getD_el hlt]
 have hx:=List.getElem?_eq_getElem hlt;rw [←hc] at hx;have hle:=HX.le;obtain ⟨kk,hkk⟩:=Int.eq_ofNat_of_zero_le hbd.1;rw [hkk] at hi;rw [hkk,Int.toNat_natCast] at hx hlt;have hx:=Bx.mk hx;have hsl:=Bx.mk hsl;have b1:(0:Int)≤(kk:Int):=by omega
 have b2:(kk:Int)<(xs.length:Int):=by omega
 generalize zF ⟨⟨a,b,c⟩,⟨d,e,f⟩⟩ xs ⟨px,py,pz⟩=r at *;clear hbd hl hc hkk hin HX;go_enter Tryz.func162,Tryz.ntmps162;go_wp2_with fail;generalize hW:World.alloc (World.alloc w _) _=W;have hSz:=sz2 hW;have hB:=bl2 hW;have kg:Bk W (w.heap.size) #[a,b,c,d,e,f,.slice ha xs.length hcp] 28:=bk1 hW;have kp:Bk W (w.heap.size+1) #[px,py,pz] 23:=bk0 hW;clear hW;refine (hi.out _).mono ?_;rintro e1 w1 ⟨rfl,hb⟩;replace hB:=hB.trans (hb.mono hB.size);replace kg:=kg.later hb;replace kp:=kp.later hb;replace hSz:=Nat.le_trans hSz hb.size;clear hb;obtain ⟨cg0,cg1,cg2,cg3,cg4,cg5,cg6⟩:=kg.c7;obtain ⟨bb,off,rfl,hcell⟩:=(hsl.out.below hB) _ _ hx.out;generalize xs.length=n at *;go_wp2_with fail;go_ret;exact ⟨rfl,hB⟩
theorem zNG (a b c d e f px py pz:Int) (ha:Option Addr) (hcp:Nat) (xs:List Int) (HX:GoodG ⟨⟨a,b,c⟩,⟨d,e,f⟩⟩ xs hcp) (w:World) (hsl:Sl w .i64 ha xs) :
 Calls Tryz.prog 162 #[.agg #[a,b,c,d,e,f,.slice ha xs.length hcp],.agg #[px,py,pz]] w fun e' w'=>e' = .returned (.int .i64 (zF ⟨⟨a,b,c⟩,⟨d,e,f⟩⟩ xs ⟨px,py,pz⟩))∧Below w.heap.size w w':=by
 cases hin:inB ⟨px,py,pz⟩ ⟨⟨a,b,c⟩,⟨d,e,f⟩⟩ with
 | false=>exact zGK a b c d e f px py pz ha hcp xs HX hin w hsl
 | true=>exact zHx a b c d e f px py pz ha hcp xs HX hin w hsl
def zA9 (b:Box) (xs:List Int) (dd:Int):Int:=if dd<2∨14<dd then 13 else if zAA b xs=true∧(zG b=true∨zQ ⟨⟨0,0,0⟩,⟨2 ^ dd.toNat,2 ^ dd.toNat,2 ^ dd.toNat⟩⟩ b=true) then 0 else 1
theorem zLs {b:Box} {xs:List Int} {hcp:Nat} (h:zAA b xs=true) (hl:xs.length≤300) (hc:xs.length≤hcp):GoodG b xs hcp:=by
 simp only [zAA,Bool.and_eq_true,decide_eq_true_eq] at h;obtain ⟨⟨⟨⟨h1,_⟩,_⟩,h2⟩,h3⟩:=h;exact ⟨zAS h1,by omega,hl,zE6 h3,hc⟩
theorem zIK {b:Box} {xs:List Int} {dd:Int} (h:zA9 b xs dd=0) : ∃ n:Nat,n≤12∧dd=(n:Int)+2∧zAA b xs=true∧(zG b=true∨zQ ⟨⟨0,0,0⟩,⟨2 ^ (n+2),2 ^ (n+2),2 ^ (n+2)⟩⟩ b=true):=by
 unfold zA9 at h;split at h
 · cases h
 · rename_i h1;split at h
   · rename_i h2;refine ⟨(dd - 2).toNat,by omega,by omega,h2.1,?_⟩
     rw [show (dd - 2).toNat+2=dd.toNat by omega]
     exact h2.2
   · cases h
theorem zLt (w:World) (sb:Nat) (a b c d e f:Int) (ha:Option Addr) (hcp:Nat) (xs:List Int) (n:Nat) (hn:n≤12) (hsl:Sl w .i64 ha xs) (HX:GoodH ⟨⟨a,b,c⟩,⟨d,e,f⟩⟩ xs hcp) (hV:zAA ⟨⟨a,b,c⟩,⟨d,e,f⟩⟩ xs=true) (hC:zG ⟨⟨a,b,c⟩,⟨d,e,f⟩⟩=true∨zQ ⟨⟨0,0,0⟩,⟨2 ^ (n+2),2 ^ (n+2),2 ^ (n+2)⟩⟩ ⟨⟨a,b,c⟩,⟨d,e,f⟩⟩=true)
 (Far:Nat→Prop) (hfx:xs ≠ [] → ∀ b,ha.map (·.block)=some b→Far b) (most:Int) (ts:List Tr) (hG:Good ts) (hlen:ts.length≤100000000000) (hFar : ∀ k,Far k→k<w.heap.size) (hS:StoreIs w Far sb most ts) :
 Calls Tryz.prog 34 #[.pointer (some ⟨sb,0,none⟩),.agg #[a,b,c,d,e,f,.slice ha xs.length hcp],.int .i64 ((n:Int)+2)] w (Done Far sb most ts (Tr.add (Tr.can (zF ⟨⟨a,b,c⟩,⟨d,e,f⟩⟩ xs) n ⟨0,0,0⟩) ts) (Tr.can (zF ⟨⟨a,b,c⟩,⟨d,e,f⟩⟩ xs) n ⟨0,0,0⟩) w):=by
 have hl:=zOK (f:=zF ⟨⟨a,b,c⟩,⟨d,e,f⟩⟩ xs) hn ⟨0,0,0⟩ ts;have hxl:=HX.le;cases hEm:zG ⟨⟨a,b,c⟩,⟨d,e,f⟩⟩ with
 | true=>exact zLu w sb a b c d e f ha hcp xs n hn _ rfl (by omega) hsl HX hV hEm Far hfx most ts hG (by omega) hFar hS
 | false =>
   rw [hEm] at hC;exact zLv w sb a b c d e f ha hcp xs n hn _ rfl (by omega) hsl HX hV hEm (hC.resolve_left (by simp)) Far hfx most ts hG (by omega) hFar hS
end
section
open Oct
open Classical in
noncomputable def cn (L:List Pt) (n:Nat) (a:Pt):Nat:=(L.filter fun p=>decide (Tr.InC n a p)).length
open Classical in
theorem zKM (p:Pt) (L:List Pt) (n:Nat) (a:Pt):cn (p::L) n a=(if Tr.InC n a p then 1 else 0)+cn L n a:=by
 unfold cn;rw [List.filter_cons];by_cases h:Tr.InC n a p
 · simp [h];omega
 · simp [h]
theorem one_of (k:Fin 8):(List.ofFn fun i:Fin 8=>if i=k then (1:Nat) else 0).sum=1:=by revert k;decide
theorem zI7 {f g:Fin 8→Nat} (h : ∀ i,f i≤g i):(List.ofFn f).sum≤(List.ofFn g).sum:=by
 have h0:=h 0;have h1:=h 1;have h2:=h 2;have h3:=h 3;have h4:=h 4;have h5:=h 5;have h6:=h 6;have h7:=h 7;simp only [List.ofFn_succ,List.ofFn_zero,List.sum_cons,List.sum_nil];simp only [Fin.reduceSucc,Fin.isValue] at *;omega
theorem zKz (f g:Fin 8→Nat):(List.ofFn fun i=>f i+g i).sum=(List.ofFn f).sum+(List.ofFn g).sum:=by
 simp only [List.ofFn_succ,List.ofFn_zero,List.sum_cons,List.sum_nil];omega
theorem zFG:(List.ofFn fun _:Fin 8=>(0:Nat)).sum=0:=by decide
theorem zKL (n:Nat) (a:Pt) (ha:Tr.Al (n+1) a) : ∀ L:List Pt,(List.ofFn fun i:Fin 8=>cn L n (Tr.cor a n i.val)).sum≤cn L (n+1) a
 | [] => by
   have : ∀ i:Fin 8,cn [] n (Tr.cor a n i.val)=0:=fun i=>by simp [cn]
   simp only [this];rw [zFG];omega
 | p :: L => by
   classical
   have ih:=zKL n a ha L;have e : ∀ i:Fin 8,cn (p::L) n (Tr.cor a n i.val)=(if Tr.InC n (Tr.cor a n i.val) p then 1 else 0)+cn L n (Tr.cor a n i.val):=fun i=>zKM p L n _;simp only [e];rw [zKz,zKM]
   have h1:(List.ofFn fun i:Fin 8=>if Tr.InC n (Tr.cor a n i.val) p then 1 else 0).sum≤if Tr.InC (n+1) a p then 1 else 0:=by
    by_cases h:Tr.InC (n+1) a p
    · rw [if_pos h]
      have:=zI7 (f:=fun i:Fin 8=>if Tr.InC n (Tr.cor a n i.val) p then 1 else 0) (g:=fun i:Fin 8=>if i=Tr.oct n p then 1 else 0) (fun i=>by
       by_cases hi:Tr.InC n (Tr.cor a n i.val) p
       · rw [if_pos hi,if_pos (Tr.inC_other ha hi).1];omega
       · rw [if_neg hi];omega)
      rw [one_of] at this;exact this
    · rw [if_neg h]
      have:=zI7 (f:=fun i:Fin 8=>if Tr.InC n (Tr.cor a n i.val) p then 1 else 0) (g:=fun _=>0) (fun i=>by
       by_cases hi:Tr.InC n (Tr.cor a n i.val) p
       · exact absurd (Tr.inC_other ha hi).2 h
       · rw [if_neg hi];omega)
      rw [zFG] at this;exact this
   omega
theorem cn_le (L:List Pt) (n:Nat) (a:Pt):cn L n a≤L.length:=by unfold cn;exact List.length_filter_le _ _
theorem zMp {L:List Pt} {n:Nat} {a p:Pt} (h:p∈L) (h':Tr.InC n a p):0<cn L n a:=by
 classical
 unfold cn;exact List.length_pos_of_mem (List.mem_filter.2 ⟨h,by simpa using h'⟩)
open Classical in
noncomputable def phi (ts:List Tr):Nat:=ts.length+if Tr.uni 0∈ts then 0 else 1
theorem zMh (ts:List Tr):ts.length≤phi ts∧phi ts≤ts.length+1:=by unfold phi;split <;> omega
theorem zGL (t:Tr) (ts:List Tr):phi (Tr.ins t ts)≤phi ts+1:=by
 by_cases h:t∈ts
 · rw [Tr.ins_of_mem h];omega
 · rw [Tr.ins_of_not h];unfold phi;rw [List.length_append,List.length_singleton];by_cases h0:Tr.uni 0∈ts
   · rw [if_pos h0,if_pos (by simp [h0])];omega
   · rw [if_neg h0];split <;> omega
theorem zG7 (ts:List Tr):phi (Tr.add (.uni 0) ts)≤phi ts:=by
 rw [Tr.add_uni];by_cases h:Tr.uni 0∈ts
 · rw [Tr.ins_of_mem h];omega
 · rw [Tr.ins_of_not h];unfold phi;rw [if_neg h,if_pos (by simp),List.length_append,List.length_singleton];omega
theorem zNK {f:Pt→Int} (hf : ∀ p,0≤f p∧f p≤255) (L:List Pt) : ∀ (n:Nat) (a:Pt) (ts:List Tr),n≤200→Tr.Al n a→Good ts→(∀ p,Tr.InC n a p→f p ≠ 0→p∈L) →
 phi (Tr.add (Tr.can f n a) ts)≤phi ts+(n+1) * cn L n a:=by
 intro n
 induction n with
 | zero =>
   intro a ts hn ha hG hL;by_cases hc:cn L 0 a=0
   · rw [zBM 0 a f ha (fun p hp=>Classical.byContradiction fun h=>by have:=zMp (hL p hp h) hp;omega)]
     have:=zG7 ts;omega
   · have h1:phi (Tr.add (Tr.can f 0 a) ts)≤phi ts+1:=by
      unfold Tr.can Tr.mkBrick;split
      · rw [Tr.add_uni];exact zGL _ _
      · rw [Tr.add_brick];exact zGL _ _
     omega
 | succ n ih =>
   intro a ts hn ha hG hL;by_cases hc:cn L (n+1) a=0
   · rw [zBM (n+1) a f ha (fun p hp=>Classical.byContradiction fun h=>by have:=zMp (hL p hp h) hp;omega)]
     have:=zG7 ts;omega
   · have hW : ∀ i:Fin 8,Tr.WF (Tr.can f n (Tr.cor a n i.val)):=fun i=>zAm hf n _ (by omega)
     have key : ∀ k,k≤8→phi (Tr.addK (fun i:Fin 8=>Tr.can f n (Tr.cor a n i.val)) k ts)≤phi ts+(n+1) * ((List.ofFn fun i:Fin 8=>cn L n (Tr.cor a n i.val)).take k).sum:=by
      intro k
      induction k with
      | zero=>intro _;rw [Tr.addK_zero];simp
      | succ k ihk =>
        intro hk;rw [Tr.addK_succ _ (by omega)]
        have h2:=ihk (by omega)
        have h1:=ih (Tr.cor a n k) (Tr.addK (fun i:Fin 8=>Tr.can f n (Tr.cor a n i.val)) k ts) (by omega) (Tr.al_cor ha k) (zA8 hG hW k (by omega)) (fun p hp h=>hL p (Tr.inC_other ha (i:=⟨k,by omega⟩) hp).2 h)
        rw [List.take_succ_eq_append_getElem (by simpa using (show k<8 by omega)),List.sum_append]
        simp only [List.getElem_ofFn,List.sum_cons,List.sum_nil,Nat.add_zero];rw [Nat.mul_add];omega
     have h8:=key 8 (Nat.le_refl _);rw [List.take_of_length_le (by simp)] at h8
     have hk:=Nat.mul_le_mul_left (n+1) (zKL n a ha L)
     have hin:phi (Tr.add (Tr.can f (n+1) a) ts)≤phi (Tr.addK (fun i:Fin 8=>Tr.can f n (Tr.cor a n i.val)) 8 ts)+1:=by
      show phi (Tr.add (Tr.mkInner (n+3) fun i=>Tr.can f n (Tr.cor a n i.val)) ts)≤_
      rw [Tr.inner_add hG.closed];split
      · omega
      · exact zGL _ _
     have e:(n+1+1) * cn L (n+1) a=(n+1) * cn L (n+1) a+cn L (n+1) a:=Nat.succ_mul _ _;omega
def zOX (b:Box):List Pt:=(List.range (zU b).toNat).map fun i:Nat=>atB b (i:Int)
theorem zNh {b:Box} {p:Pt} (h:inB p b=true):p∈zOX b:=by
 have hi:=ze h;refine List.mem_map.2 ⟨(zT b p).toNat,List.mem_range.2 (by omega),?_⟩
 rw [Int.toNat_of_nonneg hi.1,zDG h]
theorem zOL {b:Box} {xs:List Int} {hcp n:Nat} (HX:GoodG b xs hcp) (hn:n≤12) {ts:List Tr} (hG:Good ts):(Tr.add (Tr.can (zF b xs) n ⟨0,0,0⟩) ts).length≤ts.length+3901:=by
 have h1:=zNK HX.range (zOX b) n ⟨0,0,0⟩ ts (by omega) (zB5 n) hG (fun p _ h=>zNh (by
  cases hp:inB p b with
  | true=>rfl
  | false=>exact absurd (by unfold zF;rw [if_neg (by simp [hp])]) h))
 have h2:=cn_le (zOX b) n ⟨0,0,0⟩
 have h3:(zOX b).length≤300:=by
  unfold zOX;rw [List.length_map,List.length_range,←HX.len];exact HX.le
 have h4:=(zMh (Tr.add (Tr.can (zF b xs) n ⟨0,0,0⟩) ts)).1;have h5:=(zMh ts).2;have h6:(n+1) * cn (zOX b) n ⟨0,0,0⟩≤13 * 300:=Nat.mul_le_mul (by omega) (by omega)
 omega
end
section
open Go.RowKit Go.Sort Go.Maps
open Oct
theorem zEs:Good []:=⟨Tr.Closed.nil,fun t h=>by cases h⟩
end
section
open Go.RowKit
open Oct
structure FnC (n:Nat) (f:Pt→Int):Prop where
 range : ∀ p,0≤f p∧f p≤255
 out : ∀ p,inB p (zy (2 ^ (n+2)))=false→f p=0
noncomputable abbrev trF (n:Nat) (f:Pt→Int):Tr:=Tr.can f n ⟨0,0,0⟩
theorem zFn {n:Nat} {p:Pt} (h:inB p (zy (2 ^ (n+2)))=true):Tr.InC n ⟨0,0,0⟩ p:=by
 have hl:=zX.1 h;simp only [zy,Pt.zero] at hl;unfold Tr.InC;simp only [Int.zero_ediv];refine ⟨Int.ediv_eq_zero_of_lt (by omega) (by omega),Int.ediv_eq_zero_of_lt (by omega) (by omega),Int.ediv_eq_zero_of_lt (by omega) (by omega)⟩
theorem FnC.upd {n:Nat} {f:Pt→Int} (h:FnC n f) {p:Pt} (hI:inB p (zy (2 ^ (n+2)))=true) {c:Int} (hc:0≤c∧c≤255):FnC n (Tr.upd f p c):=by
 refine ⟨fun q=>?_,fun q hq=>?_⟩
 · unfold Tr.upd;split
   · exact hc
   · exact h.range q
 · unfold Tr.upd;split
   · rename_i e;rw [e,hI] at hq;cases hq
   · exact h.out q hq
theorem zNy {b:Box} {xs:List Int} {hcp n:Nat} (HX:GoodG b xs hcp) (hC:zG b=true∨zQ ⟨⟨0,0,0⟩,⟨2 ^ (n+2),2 ^ (n+2),2 ^ (n+2)⟩⟩ b=true):FnC n (zF b xs):=by
 refine ⟨HX.range,fun p hp=>?_⟩;cases hb:inB p b with
 | false=>unfold zF;rw [if_neg (by simp [hb])]
 | true =>
   exfalso;have h1:=zX.1 hb;rcases hC with hC | hC
   · have:=zDg.1 hC;omega
   · unfold zQ at hC;rw [Bool.or_eq_true] at hC;rcases hC with hC | hC
     · have:=zDg.1 hC;omega
     · have h2:inB p (zD ⟨⟨0,0,0⟩,⟨2 ^ (n+2),2 ^ (n+2),2 ^ (n+2)⟩⟩ b)=true:=by rw [of_decide_eq_true hC];exact hb
       have h3:inB p (zy (2 ^ (n+2)))=true:=zX.2 (by
        unfold zD at h2;split at h2
        · have:=zX.1 h2;simp only [Box.zero,Pt.zero] at this;omega
        · have:=zX.1 h2;simp only [zBQ] at this;simp only [zy,Pt.zero];omega)
       rw [hp] at h3;cases h3
theorem zG4 {n:Nat} {f:Pt→Int} {p:Pt} (hI:inB p (zy (2 ^ (n+2)))=true) (c:Int):Tr.setT n (trF n f) p c=trF n (Tr.upd f p c):=Tr.set_can f c n _ p (zB5 n) (zFn hI)
theorem zJ2 {n:Nat} {f:Pt→Int} {p:Pt} (hI:inB p (zy (2 ^ (n+2)))=true):Tr.getT (trF n f) n p=f p:=Tr.get_can f n _ p (zB5 n) (zFn hI)
theorem zKu {f:Pt→Int} {p:Pt} {c:Int} (h:f p=c):Tr.upd f p c=f:=by
 funext q
 unfold Tr.upd;split
 · rename_i e;rw [e,h]
 · rfl
theorem zKv (f:Pt→Int) (p:Pt) (c:Int):Tr.upd (Tr.upd f p c) p (f p)=f:=by
 funext q
 unfold Tr.upd;split
 · rename_i e;rw [e]
 · rfl
theorem zMd (f:Pt→Int) (p:Pt) (c:Int):Tr.upd f p c p=c:=if_pos rfl
theorem zGC {f:Pt→Int} {p q:Pt} {c:Int} (h:q ≠ p):Tr.upd f p c q=f q:=if_neg h
theorem zNz {n:Nat} {f:Pt→Int} (hn:n≤12) (hF:FnC n f) {ts:List Tr} (hG:Good ts):Good (Tr.add (trF n f) ts):=zAV _ hG (zAm hF.range n _ (by omega))
theorem zMk {n:Nat} {f:Pt→Int} (hn:n≤12) {p:Pt} (hI:inB p (zy (2 ^ (n+2)))=true) {c:Int} (hc:0≤c∧c≤255) {ts:List Tr} (hG:Good ts) (ht:trF n f∈ts):(Tr.add (trF n (Tr.upd f p c)) ts).length≤ts.length+13:=by
 have:=zGI hc p n (trF n f) ts (by omega) hG ht (zA5 f n _)
 rw [zG4 hI] at this;omega
theorem zMl (w:World) (Far:Nat→Prop) (sb:Nat) (most:Int) (ts:List Tr) (n:Nat) (f:Pt→Int) (hn:n≤12) (hF:FnC n f) (hG:Good ts) (hlen:ts.length≤1000000000000) (ht:trF n f∈ts) (px py pz:Int) (hS:StoreIs w Far sb most ts) :
 Calls Tryz.prog 12 #[.pointer (some ⟨sb,0,none⟩),(idT ts (trF n f):Int),.int .i64 ((n:Int)+2),.agg #[px,py,pz]] w fun e w'=>e = .returned (.int .i64 (f ⟨px,py,pz⟩))∧Below w.heap.size w w':=by
 cases hI:inB ⟨px,py,pz⟩ (zy (2 ^ (n+2))) with
 | false =>
   rw [hF.out _ hI];have:=zN1 w sb (idT ts (trF n f):Int) (n+2) (by omega) px py pz hI
   rwa [show ((n+2:Nat):Int)=(n:Int)+2 by omega] at this
 | true =>
   have:=zJ3 w Far sb most ts (trF n f) ht n hn (zA5 f n _) hG hlen px py pz hI hS;rwa [zJ2 hI] at this
end
section
open Oct
def fs (F H:Pt→Int) (pt:Nat→Pt):Nat→Pt→Int
 | 0=>F
 | i+1=>Tr.upd (fs F H pt i) (pt i) (H (pt i))
def cb (p:Pt) (L:Nat):Box:=⟨p,⟨p.x+2 ^ L,p.y+2 ^ L,p.z+2 ^ L⟩⟩
end
section
open Go.RowKit
open Oct
theorem zHB {ts:List Tr} (hG:Good ts) {t:Tr} (ht:t∈ts) (i:Fin 8):t.kid i∈ts:=by
 cases t with
 | uni c=>exact ht
 | brick l=>exact ht
 | node d ch=>exact hG.closed.2 d ch ht i
theorem zKW (f:Pt→Int) (n:Nat) (a:Pt) (i:Fin 8):(Tr.can f (n+1) a).kid i=Tr.can f n (Tr.cor a n i.val):=Tr.mkInner_kid (n+3) (fun i:Fin 8=>Tr.can f n (Tr.cor a n i.val)) i
theorem zIm {f:Pt→Int} {n:Nat} {a:Pt} {ts:List Tr} (hG:Good ts) (h:Tr.can f (n+1) a∈ts) (i:Fin 8):Tr.can f n (Tr.cor a n i.val)∈ts:=by
 rw [←zKW];exact zHB hG h i
theorem zLo (t:Tr) (ts:List Tr):(Tr.ins t ts).length≤ts.length+1:=by
 by_cases h:t∈ts
 · rw [Tr.ins_of_mem h];omega
 · rw [Tr.ins_of_not h,List.length_append,List.length_singleton];omega
abbrev zCq (n:Nat):Box:=zy (2 ^ (n+2))
def zBA (n:Nat) (b:Box) (c:Int) (f:Pt→Int):Pt→Int:=fun p=>if (inB p b && inB p (zCq n))=true then c else f p
def zAd (n:Nat) (b:Box) (xs:List Int) (f:Pt→Int):Pt→Int:=fun p=>if (inB p b && inB p (zCq n))=true then zF b xs p else f p
def zAa (l:List (Pt × Int)) (f:Pt→Int):Pt→Int:=l.foldl (fun g x=>Tr.upd g x.1 x.2) f
theorem zIy : ∀ (l:List (Pt × Int)) (f:Pt→Int) (p:Pt),(∀ x∈l,x.1 ≠ p)→zAa l f p=f p
 | [],_,_,_=>rfl
 | x :: l, f, p, h => by
   unfold zAa;rw [List.foldl_cons];have:=zIy l (Tr.upd f x.1 x.2) p fun y hy=>h y (by simp [hy])
   unfold zAa at this;rw [this];unfold Tr.upd;rw [if_neg (fun e=>h x (by simp) e.symm)]
end
end Go.Proofs.YtfcbajmjaifjlaaGreatDoor
