/- RlT, Df2, Nd1: joined by program, for one claim. -/
import Derived.Test.YtfcbajmjaifjlaaGreatM4
import Derived.Test.YtfcbajmjaifjlaaGreatM10
import Derived.Test.YtfcbajmjaifjlaaGreatM28
import Derived.Test.YtfcbajmjaifjlaaGreatM24
set_option linter.unusedVariables false
set_option linter.unusedSimpArgs false
namespace Go.Proofs.YtfcbajmjaifjlaaGreat
section
open Go.Sort Go.RowKit
section
variable {P:Program} {l:List Oper} {n:Nat} {R:Nat→Value→World→Prop} {W:World} {a:Act}
theorem ri_anyT (hn:n≤l.length) (B:RelB l n) (hb:backB .any l n=true) (ht:tailT .any l n=true) (hf : ∀ i,i<n→Firm (R i)) (hd : ∀ i d,i<n→dstAt l i=some d→d<a.tmps.size)
 (hop : ∀ i o,i<n→l[i]? = some o → ∀ (ρ:Operand→Value) w,Below W.heap.size W w→(∀ v,ρ (.const v)=v)→(∀ g,ρ (.global g) = .pointer (some ⟨g,0,none⟩))→(∀ f,ρ (.func f) = .func (.func f) #[] #[]) →
  (∀ d,.tmp d∈o.op.operands→Known l n R a d (ρ (.tmp d)) w)→relUpon P w (R i) ((execOp ρ o).run P w))
 {Q:Exit→Act→World→Prop} (hend : ∀ a' w',RI l n R W a (Array.replicate n true) a' w'→wpAny P .any l.toArray Q (l.length - n) (Array.replicate n true++Array.replicate (l.length - n) false) a' w') :
 ∀ (f:Nat) (s:Array Bool) (a':Act) (w':World),s.size=n→Shut .any l s→unl s=f→RI l n R W a s a' w'→wpAny P .any l.toArray Q (f+(l.length - n)) (s++Array.replicate (l.length - n) false) a' w'
 | 0, s, a', w', hs, _, hu, I => by
   have e:s=Array.replicate n true:=by rw [←hs];exact unl_zero hu
   rw [Nat.zero_add,e]
   rw [e] at I
   exact hend a' w' I
 | f + 1, s, a', w', hs, hsh, hu, I => by
   obtain ⟨k,hk,hun⟩:=unl_pos (s:=s) (by omega)
   rw [show f+1+(l.length - n)=(f+(l.length - n))+1 by omega]
   refine ⟨fun h0=>?_,fun i hi=>?_⟩
   · obtain ⟨i,hi⟩:=ready_some (g:=l.length - n) hs hn hb (k+1) k (by omega) (by omega) hun
     rw [h0] at hi;cases hi
   · have hin:=ready_not_tailT hs hsh (by omega:k<n) hun ht hi
     have hiu:s.getD i true=false:=by have:=(mem_ready.1 hi).1;rwa [app_get hs hin] at this
     refine wpOp_mono (fun a'' w'' I'=>?_) (ri_step B hf hd hop hs I hin hi hiu)
     rw [app_set (by omega)]
     refine ri_anyT hn B hb ht hf hd hop hend f _ a'' w'' (by simpa using hs) (shut_set hsh (ready_head hs hin hb hi) hin) ?_ I'
     have:=unl_set (s:=s) (by omega) hiu
     omega
def headRT (l:List Oper) (n:Nat):Bool :=
 decide (n<l.length) && backB .any l n && tailT .any l n && relB l n && Region.seqB .any l.toArray (l.length - n) n (Array.replicate n true++Array.replicate (l.length - n) false)
theorem any_relT {Q:Exit→Act→World→Prop} (n:Nat) (R:Nat→Value→World→Prop) (hB:headRT l n=true) (m:Nat) (hdm:dstB l m=true) (ham:a.tmps.size=m)
 (hf : ∀ i,i<n→Firm (R i))
 (hop : ∀ i o,i<n→l[i]? = some o → ∀ (ρ:Operand→Value) w,Below W.heap.size W w→(∀ v,ρ (.const v)=v)→(∀ g,ρ (.global g) = .pointer (some ⟨g,0,none⟩))→(∀ f,ρ (.func f) = .func (.func f) #[] #[]) →
  (∀ d,.tmp d∈o.op.operands→Known l n R a d (ρ (.tmp d)) w)→relUpon P w (R i) ((execOp ρ o).run P w))
 (h : ∀ (vs:List Value) w',vs.length=n→Below W.heap.size W w'→(∀ i v,vs[i]? = some v→R i v w')→wpList P l.toArray Q (l.drop n) (puts (((l.take n).map (·.dst)).zip vs) a) w'):wpAny P .any l.toArray Q l.toArray.size (Array.replicate l.toArray.size false) a { W with drawn:=W.drawn+1 }:=by
 simp only [headRT,Bool.and_eq_true,decide_eq_true_eq] at hB
 obtain ⟨⟨⟨⟨hn,hb⟩,ht⟩,hrel⟩,hseq⟩:=hB
 have B:=relB_spec hrel
 have hd : ∀ i d,i<n→dstAt l i=some d→d<a.tmps.size:=fun i d _ hd=>by rw [ham];exact dstB_spec hdm hd
 have:=ri_anyT (Q:=Q) (by omega) B hb ht hf hd hop (fun a' w' I=>?_) n (Array.replicate n false) a { W with drawn:=W.drawn+1 } (by simp) (fun m k h=>by
  simp only [Array.getD_eq_getD_getElem?,Array.getElem?_replicate] at h
  split at h <;> simp at h) (by simp [unl])
  ⟨rfl,rfl,fun x _=>rfl,fun i d _ hs=>(by rw [getD_replicate_false] at hs;cases hs),⟨rfl,rfl,rfl,Nat.le_refl _,fun _ _=>rfl⟩⟩
 · have e:Array.replicate n false++Array.replicate (l.length - n) false=Array.replicate l.toArray.size false:=by
    rw [Array.replicate_append_replicate];congr 1;simp;omega
   rw [e,show n+(l.length - n)=l.toArray.size by simp;omega] at this
   exact this
 · have hv : ∀ i,∃ v,i<n→(∃ d,dstAt l i=some d∧a'.tmps[d]? = some v)∧R i v w':=by
    intro i
    by_cases hi:i<n
    · obtain ⟨o,ho⟩ : ∃ o,l[i]? = some o:=⟨_,List.getElem?_eq_getElem (by omega)⟩
      obtain ⟨d,hdd⟩:=B.dst i o hi ho
      have hdl:dstAt l i=some d:=by simp [dstAt,ho,hdd]
      obtain ⟨v,h1,h2⟩:=I.head i d hi (by simp [hi]) hdl
      exact ⟨v,fun _=>⟨⟨d,hdl,h1⟩,h2⟩⟩
    · exact ⟨undef,fun h=>absurd h hi⟩
   obtain ⟨g,hg⟩:=Classical.axiomOfChoice hv
   have hlen:((List.range n).map g).length=n:=by simp
   have hz : ∀ i,i<n→(((l.take n).map (·.dst)).zip ((List.range n).map g))[i]? = some (dstAt l i,g i):=by
    intro i hi
    rw [(List.getElem?_zip_eq_some (z:=(dstAt l i,g i))).2]
    refine ⟨?_,by simp [hi]⟩
    rw [List.getElem?_map,List.getElem?_take,if_pos hi]
    unfold dstAt
    rw [List.getElem?_eq_getElem (show i<l.length by omega)];rfl
   have hlt : ∀ {i p},(((l.take n).map (·.dst)).zip ((List.range n).map g))[i]? = some p→i<n:=by
    intro i p hp
    have:=(List.getElem?_eq_some_iff.1 hp).1
    simp at this;omega
   have heq:a'=puts (((l.take n).map (·.dst)).zip ((List.range n).map g)) a:=by
    refine act_ext ?_ fun x=>?_
    · rw [(puts_size _ _).2];exact I.defers
    · by_cases hx : ∃ i,i<n∧dstAt l i=some x
      · obtain ⟨i,hi,hdx⟩:=hx
        obtain ⟨⟨d,h1,h2⟩,_⟩:=hg i hi
        rw [hdx] at h1
        obtain rfl:=Option.some.inj h1
        rw [h2]
        symm
        refine puts_in _ a x _ (hd i x hi hdx) ?_ (List.mem_iff_getElem?.2 ⟨i,by rw [hz i hi,hdx]⟩)
        rw [List.pairwise_iff_getElem]
        intro p q hp hq hpq d' e1 e2
        have n1:=hz p (hlt (List.getElem?_eq_getElem hp))
        have n2:=hz q (hlt (List.getElem?_eq_getElem hq))
        rw [List.getElem?_eq_getElem hp] at n1
        rw [List.getElem?_eq_getElem hq] at n2
        rw [Option.some.inj n1] at e1
        rw [Option.some.inj n2] at e2
        exact B.dist p q d' (hlt (List.getElem?_eq_getElem hp)) (hlt (List.getElem?_eq_getElem hq)) (by omega) e1 e2
      · rw [puts_out _ _ x (fun p hp e=>by
         obtain ⟨i,hi⟩:=List.mem_iff_getElem?.1 hp
         have hin:=hlt hi
         rw [hz i hin] at hi
         have:=Option.some.inj hi
         subst this
         exact hx ⟨i,hin,e⟩)]
        exact I.old x fun i hi _ e=>hx ⟨i,hi,e⟩
   have hres:=h ((List.range n).map g) w' hlen I.below (fun i v hi=>by
    have hin:i<n:=by have:=(List.getElem?_eq_some_iff.1 hi).1;simpa using this
    have:v=g i:=by simpa [hin] using hi.symm
    rw [this];exact (hg i hin).2)
   rw [←heq] at hres
   have:=wpAny_of_seq (P:=P) (md:=.any) (ops:=l.toArray) (Q':=Q) (l.drop n) n (Array.replicate n true++Array.replicate (l.length - n) false) a' w' (fun j=>by simp [List.getElem?_drop]) (by simpa using hseq) hres
   simpa using this
theorem wp_region_relT {id:Nat} {Q:Exit→Act→World→Prop} (n:Nat) (R:Nat→Value→World→Prop) (hm:P.follows .mixedOrders=true) (hB:headRT l n=true) (m:Nat) (hdm:dstB l m=true) (ham:a.tmps.size=m)
 (hf : ∀ i,i<n→Firm (R i))
 (hop : ∀ i o,i<n→l[i]? = some o → ∀ (ρ:Operand→Value) w,Below W.heap.size W w→(∀ v,ρ (.const v)=v)→(∀ g,ρ (.global g) = .pointer (some ⟨g,0,none⟩))→(∀ f,ρ (.func f) = .func (.func f) #[] #[]) →
  (∀ d,.tmp d∈o.op.operands→Known l n R a d (ρ (.tmp d)) w)→relUpon P w (R i) ((execOp ρ o).run P w))
 (h : ∀ (vs:List Value) w',vs.length=n→Below W.heap.size W w'→(∀ i v,vs[i]? = some v→R i v w')→wpList P l.toArray Q (l.drop n) (puts (((l.take n).map (·.dst)).zip vs) a) w'):(Code.region id l.toArray true).wp P Q a W :=
 wp_region_any hm (any_relT n R hB m hdm ham hf hop h)
end
end
section
open Go.RowKit Go.Sort Go.Maps
open Oct
theorem Bk.put8' {w:World} {g:Nat} {x0 x1 x2 x3 x4 x5 x6 x7:Value} {t:TypeId} (h:Bk w g #[x0,x1,x2,x3,x4,x5,x6,x7] t) (a b c d e f i j:Value) :
 Bk ((((((((w.setCell ⟨g,0,none⟩ a).setCell ⟨g,1,none⟩ b).setCell ⟨g,2,none⟩ c).setCell ⟨g,3,none⟩ d).setCell ⟨g,4,none⟩ e).setCell ⟨g,5,none⟩ f).setCell ⟨g,6,none⟩ i).setCell ⟨g,7,none⟩ j) g #[a,b,c,d,e,f,i,j] t:=by
 simpa using (((((((h.set 0 a).set 1 b).set 2 c).set 3 d).set 4 e).set 5 f).set 6 i).set 7 j
theorem alloc_arr (o:Oper) (h:o.op = .alloc 108) (ρ:Operand→Value) (w:World) :
 (execOp ρ o).run Tryz.prog w = .ok (.value (.pointer (some ⟨w.heap.size,0,none⟩))) (w.alloc (.cells #[(0:Int),(0:Int),(0:Int),(0:Int),(0:Int),(0:Int),(0:Int),(0:Int)] 108)):=by
 unfold execOp
 simp only [h]
 go_simp
 try rfl
set_option maxHeartbeats 1000000 in
theorem store_arr (o:Oper) (tp tu:Tmp) (h:o.op = .store 108 (.tmp tp) (.tmp tu)) (z0 z1 z2 z3 z4 z5 z6 z7:Value) (y0 y1 y2 y3 y4 y5 y6 y7:Int) (ρ:Operand→Value) (w:World) (g:Nat) (h1:ρ (.tmp tp) = .pointer (some ⟨g,0,none⟩))
 (h2:ρ (.tmp tu) = .agg #[y0,y1,y2,y3,y4,y5,y6,y7]) (hb:Bk w g #[z0,z1,z2,z3,z4,z5,z6,z7] 108) :
 ∃ w',(execOp ρ o).run Tryz.prog w = .ok .skip w'∧Bk w' g #[y0,y1,y2,y3,y4,y5,y6,y7] 108∧w.grownBy w' (some g)∧w'.heap.size=w.heap.size:=by
 have c0:=hb.cell 0 rfl
 have f0:=hb.frozen 0
 have c1:=hb.cell 1 rfl
 have f1:=hb.frozen 1
 have c2:=hb.cell 2 rfl
 have f2:=hb.frozen 2
 have c3:=hb.cell 3 rfl
 have f3:=hb.frozen 3
 have c4:=hb.cell 4 rfl
 have f4:=hb.frozen 4
 have c5:=hb.cell 5 rfl
 have f5:=hb.frozen 5
 have c6:=hb.cell 6 rfl
 have f6:=hb.frozen 6
 have c7:=hb.cell 7 rfl
 have f7:=hb.frozen 7
 refine ⟨_,?_,hb.put8' _ _ _ _ _ _ _ _,grown_set (grown_set (grown_set (grown_set (grown_set (grown_set (grown_set (grown_set (World.grownBy.refl w _) _ _) _ _) _ _) _ _) _ _) _ _) _ _) _ _,by simp⟩
 unfold execOp
 simp only [h]
 go_simp
structure DL (w0 w:World) (Av Av2:Nat→Prop) (ps po pv sb gx gy:Nat) (ts:List Tr) (T U:Tr) (a:Pt) (lv:Int) (L:List (Pt × Nat)) (wr:World):Prop where
 st:DSt w0 Av2 ps po pv sb L wr
 kc:Bk wr w.heap.size #[a.x,a.y,a.z,lv] 39
 kx:wr.rowIs gx 108 8 (fun j=>.int .i64 (idT ts (kidN T j):Int))
 ky:wr.rowIs gy 108 8 (fun j=>.int .i64 (idT ts (kidN U j):Int))
 keep : ∀ k,Av k→k ≠ po→wr.heap[k]? = w.heap[k]?
set_option maxRecDepth 100000 in
set_option maxHeartbeats 4000000 in
theorem dv_node (m:Nat) (hm:m≤11) (a:Pt) (hx:0≤a.x∧a.x≤16384) (hy:0≤a.y∧a.y≤16384) (hz:0≤a.z∧a.z≤16384) (most:Int) (ts:List Tr) (hlen:ts.length≤4194304) (T U:Tr) (hT:T∈ts) (hU:U∈ts) (hne:T ≠ U) (hl:(isU T && isU U)=false) (ps po pv sb:Nat) (w0 w:World) (Av:Nat→Prop) (L:List (Pt × Nat)) (D:Nat→List (Pt × Nat)) (H:DSt w0 Av ps po pv sb L w) (hS:StoreIs w (fun k=>w0.heap.size≤k) sb most ts) (D0:D 0=[])
 (IH:Bx (∀ (k:Nat),k<8 → ∀ (Av':Nat→Prop) (W:World),(∀ j,Av j→Av' j)→Below w0.heap.size w0 W→DSt w0 Av' ps po pv sb (L++D k) W→Calls Tryz.prog 67 #[cubeV (a.x+chX k (2 ^ (m+2))) (a.y+chY k (2 ^ (m+2))) (a.z+chZ k (2 ^ (m+2))) ((m:Int)+2),(idT ts (kidN T k):Int),(idT ts (kidN U k):Int),.pointer (some ⟨ps,0,none⟩),.pointer (some ⟨po,0,none⟩),.pointer (some ⟨pv,0,none⟩)] W (DPost w0 Av' ps po pv sb (L++D (k+1)) W))) :
 Calls Tryz.prog 67 #[cubeV a.x a.y a.z ((m:Int)+3),(idT ts T:Int),(idT ts U:Int),.pointer (some ⟨ps,0,none⟩),.pointer (some ⟨po,0,none⟩),.pointer (some ⟨pv,0,none⟩)] w (DPost w0 Av ps po pv sb (L++D 8) w):=by
 have Hk:=Bx.mk fun W (h:StoreIs W (fun k=>w0.heap.size≤k) sb most ts)=>kindV_any _ sb most ts T hT hlen W h
 have Hk2:=Bx.mk fun W (h:StoreIs W (fun k=>w0.heap.size≤k) sb most ts)=>kindV_any _ sb most ts U hU hlen W h
 have hkT:=Bx.mk fun W (h:StoreIs W (fun k=>w0.heap.size≤k) sb most ts)=>kids_any _ sb most ts T hT hlen W h
 have hkU:=Bx.mk fun W (h:StoreIs W (fun k=>w0.heap.size≤k) sb most ts)=>kids_any _ sb most ts U hU hlen W h
 have hcor:=Bx.mk (fun W i hi=>child_any (m+2) (by omega) a.x a.y a.z i hi (by omega) (by omega) (by omega) W)
 rw [show ((m+2+1:Nat):Int)=(m:Int)+3 by omega,show ((m+2:Nat):Int)=(m:Int)+2 by omega] at hcor
 have t0:((idT ts T:Int) == (idT ts U:Int))=false:=by
  simp only [beq_eq_false_iff_ne,ne_eq]
  intro e
  exact hne (idT_inj hT hU (by omega))
 have t1:((m:Int)+3 == 2)=false:=by simp;omega
 have hk:Bx (kindV T=1→kindV U=1→False):=⟨fun h1 h2=>by
  have h3:isU T=true:=by cases T <;> first | rfl | (simp [kindV] at h1)
  have h4:isU U=true:=by cases U <;> first | rfl | (simp [kindV] at h2)
  rw [h3,h4] at hl;cases hl⟩
 have HS:=Bx.mk hS
 have HH:=Bx.mk H
 generalize kindV T=kT at *
 generalize kindV U=kU at *
 clear H hS hne hl hT hU hlen hx hy hz hm
 go_enter Tryz.func67,Tryz.ntmps67
 go_upto_region 1 with fail
 generalize hW:World.alloc w _=W
 have hb:=bl1 hW
 have kc:Bk W w.heap.size #[a.x,a.y,a.z,.int .i64 ((m:Int)+3)] 39:=bk0 hW
 clear hW
 have HW:=Bx.mk (HH.out.later hb)
 have HSW:=Bx.mk (HS.out.later hb)
 have KS:=Bx.mk HW.out.ks
 have KC:=Bx.mk kc
 have HB:=Bx.mk hb
 have c3:=kc.cell 3 rfl
 have s0:=HW.out.ks.cell 0 rfl
 clear hb kc
 go_upto_region 2 with fail
 go_cut [16] from 17 to 31 (fun v wx=>v = .bool false∧wx=W)
 case first =>
  by_cases h2:kT=1
  · have t2:(kT == 1)=true:=by simp [h2]
    have t3:(kU == 1)=false:=by simp;exact fun h=>hk.out h2 h
    clear h2 hk
    go_wp2_with (first | ((with_reducible refine (Hk.out W HSW.out).mono ?_);rintro _ _ ⟨rfl,rfl⟩) | ((with_reducible refine (Hk2.out W HSW.out).mono ?_);rintro _ _ ⟨rfl,rfl⟩))
    go_meet
    exact ⟨rfl,rfl⟩
  · have t2:(kT == 1)=false:=by simp [h2]
    clear h2 hk
    go_wp2_with (first | ((with_reducible refine (Hk.out W HSW.out).mono ?_);rintro _ _ ⟨rfl,rfl⟩) | ((with_reducible refine (Hk2.out W HSW.out).mono ?_);rintro _ _ ⟨rfl,rfl⟩))
    go_meet
    exact ⟨rfl,rfl⟩
 case rest =>
 obtain ⟨rfl,hw⟩:=hcut
 replace hw:=hw.symm
 subst hw
 clear t0 t1 c3 s0 hk
 go_upto_region 4 with fail
 have cs0 : ∀ dk osk,(grow (redrawn W dk) osk).cell? ⟨ps,0,none⟩=some (.pointer (some ⟨sb,0,none⟩)):=cell_regrown (KS.out.cell 0 rfl)
 have q0:=Bx.mk fun dk osk=>(hkT.out (grow (redrawn W dk) osk) (HSW.out.later (below_regrown W dk osk)))
 have q1:=Bx.mk fun dk osk=>(hkU.out (grow (redrawn W dk) osk) (HSW.out.later (below_regrown W dk osk)))
 refine wp_region_decl 6 2 (fun j=>[9,10].getD j 0) (fun j=>[38,41].getD j 0) (fun j=>[108,108].getD j 0) (fun _=>#[.int .i64 0,.int .i64 0,.int .i64 0,.int .i64 0,.int .i64 0,.int .i64 0,.int .i64 0,.int .i64 0]) (fun j=>[#[.int .i64 (idT ts (T.kid 0):Int),.int .i64 (idT ts (T.kid 1):Int),.int .i64 (idT ts (T.kid 2):Int),.int .i64 (idT ts (T.kid 3):Int),.int .i64 (idT ts (T.kid 4):Int),.int .i64 (idT ts (T.kid 5):Int),.int .i64 (idT ts (T.kid 6):Int),.int .i64 (idT ts (T.kid 7):Int)],#[.int .i64 (idT ts (U.kid 0):Int),.int .i64 (idT ts (U.kid 1):Int),.int .i64 (idT ts (U.kid 2):Int),.int .i64 (idT ts (U.kid 3):Int),.int .i64 (idT ts (U.kid 4):Int),.int .i64 (idT ts (U.kid 5):Int),.int .i64 (idT ts (U.kid 6):Int),.int .i64 (idT ts (U.kid 7):Int)]].getD j #[]) (by kernel_rfl) (by kernel_rfl) ⟨fun j hj=>?_,fun j hj=>?_⟩ 57 (by kernel_rfl) (by rfl) ?_
 · match j,hj with
   | 0,_=>exact ⟨_,rfl,rfl,rfl,alloc_arr _ rfl⟩
   | 1,_=>exact ⟨_,rfl,rfl,rfl,alloc_arr _ rfl⟩
   | j+2,hj=>omega
 · match j,hj with
   | 0,_=>exact ⟨_,rfl,rfl,rfl,fun ρ w g h1 h2 hb=>store_arr _ 9 38 rfl _ _ _ _ _ _ _ _ _ _ _ _ _ _ _ _ ρ w g h1 h2 hb⟩
   | 1,_=>exact ⟨_,rfl,rfl,rfl,fun ρ w g h1 h2 hb=>store_arr _ 10 41 rfl _ _ _ _ _ _ _ _ _ _ _ _ _ _ _ _ ρ w g h1 h2 hb⟩
   | j+2,hj=>omega
 simp only [List.take_succ_cons,List.take_zero]
 repeat (refine wpCalm_step (fun K hK=>?_);go_simp;first | (refine hK _ ?_;clear hK K) | (apply Exists.intro;refine ⟨fun _=>?_,hK _ ?_⟩;(first | ((with_reducible refine (q0.out _ _).mono ?_);exact fun _ _ h=>by simpa using h) | ((with_reducible refine (q1.out _ _).mono ?_);exact fun _ _ h=>by simpa using h));clear hK K))
 refine wpCalm_nil ⟨fun j hj=>match j,hj with | 0,_=>rfl | 1,_=>rfl | j+2,hj=>absurd hj (by omega),fun g W1 hb hg hne=>?_⟩
 obtain ⟨hs,ks⟩:=hg 0 (by omega)
 obtain ⟨hd,kd⟩:=hg 1 (by omega)
 have nsd:=hne 0 1 (by omega) (by omega) (by omega)
 clear hg hne cs0 q0 q1
 simp only [puts,List.range_succ,List.range_zero,List.nil_append,List.cons_append,List.map_cons,List.map_nil,List.foldl_cons,List.foldl_nil,List.getD_cons_zero,List.getD_cons_succ]
 generalize g 0=gx at *
 generalize g 1=gy at *
 replace ks:Bk W1 gx #[(idT ts (T.kid 0):Int),(idT ts (T.kid 1):Int),(idT ts (T.kid 2):Int),(idT ts (T.kid 3):Int),(idT ts (T.kid 4):Int),(idT ts (T.kid 5):Int),(idT ts (T.kid 6):Int),(idT ts (T.kid 7):Int)] 108:=ks
 replace kd:Bk W1 gy #[(idT ts (U.kid 0):Int),(idT ts (U.kid 1):Int),(idT ts (U.kid 2):Int),(idT ts (U.kid 3):Int),(idT ts (U.kid 4):Int),(idT ts (U.kid 5):Int),(idT ts (U.kid 6):Int),(idT ts (U.kid 7):Int)] 108:=kd
 have hbw:=HB.out.trans (hb.mono HB.out.size)
 have hk0:=KC.out.lt
 have HK:=Bx.mk (HH.out.avoid (Av':=fun k=>Av k∨k=w.heap.size∨k=gx∨k=gy) hbw (fun k hk=>by
  have:=HB.out.size
  rcases hk with hk | rfl | rfl | rfl
  · exact .inl hk
  · right;omega
  · right;omega
  · right;omega) (fun k hk=>by
  rcases hk with hk | rfl | rfl | rfl
  · exact Nat.lt_of_lt_of_le (HH.out.lt k hk) hbw.size
  · exact Nat.lt_of_lt_of_le hk0 hb.size
  · exact ks.lt
  · exact kd.lt) ⟨.inl HH.out.av.1,.inl HH.out.av.2.1,.inl HH.out.av.2.2⟩)
 have hrow : ∀ (V:Tr) (g:Nat),Bk W1 g #[(idT ts (V.kid 0):Int),(idT ts (V.kid 1):Int),(idT ts (V.kid 2):Int),(idT ts (V.kid 3):Int),(idT ts (V.kid 4):Int),(idT ts (V.kid 5):Int),(idT ts (V.kid 6):Int),(idT ts (V.kid 7):Int)] 108→W1.rowIs g 108 8 (fun j=>.int .i64 (idT ts (kidN V j):Int)):=fun V g h=>⟨_,h,rfl,fun i hi=>by
  have hi8:i<8:=hi
  show _=some (Value.int .i64 (idT ts (kidN V i):Int))
  rw [kidN_eq V hi8]
  rcases i with _ | _ | _ | _ | _ | _ | _ | _ | i
  all_goals first | rfl | omega⟩
 have HI:Bx (DL w0 w Av (fun k=>Av k∨k=w.heap.size∨k=gx∨k=gy) ps po pv sb gx gy ts T U a ((m:Int)+3) (L++D 0) W1):=⟨⟨by rw [D0,List.append_nil];exact HK.out,KC.out.later hb,hrow T gx ks,hrow U gy kd,below_keep hbw HH.out.lt⟩⟩
 have hgw:w.heap.size<gx∧w.heap.size<gy:=by have:=HB.out.size;omega
 clear hs ks hd kd nsd hbw hk0 HK hrow hb HW HSW KS KC HB hkT hkU
 go_wp2_with fail
 go_loopw [42] (fun v42 wr => ∃ k:Nat,k≤8∧v42 = .int .i64 k∧Bx (DL w0 w Av (fun k=>Av k∨k=w.heap.size∨k=gx∨k=gy) ps po pv sb gx gy ts T U a ((m:Int)+3) (L++D k) wr)) (fun i _=>8 - (intOf i).toNat)
 case atStart=>exact ⟨0,Nat.zero_le _,rfl,HI⟩
 case round =>
  clear HI
  obtain ⟨k,hk,rfl,HI⟩:=hrel
  by_cases hlt:k<8
  · have t0:decide ((k:Int)<8)=true:=by simp;omega
    have b1:(0:Int)≤(k:Int):=by omega
    have b2:(k:Int)<8:=by omega
    have KV:=Bx.mk HI.out.st.kv
    have KC:=Bx.mk HI.out.kc
    have HX:=Bx.mk HI.out.kx
    have HY:=Bx.mk HI.out.ky
    have hcork:=Bx.mk fun W=>hcor.out W k hlt
    go_upto_region 8 with fail
    refine wp_region_relT 10 (fun i v w'=>match i with
     | 0=>v=diffV ps po pv
     | 1=>v=cubeV a.x a.y a.z ((m:Int)+3)
     | 2=>v = .int .i64 (k:Int)
     | 3=>v=cubeV (a.x+chX k (2 ^ (m+2))) (a.y+chY k (2 ^ (m+2))) (a.z+chZ k (2 ^ (m+2))) ((m:Int)+2)
     | 4=>v = .int .i64 (k:Int)
     | 5=>v = .pointer (some ⟨gx,k,none⟩)
     | 6=>v = .int .i64 (idT ts (kidN T k):Int)
     | 7=>v = .int .i64 (k:Int)
     | 8=>v = .pointer (some ⟨gy,k,none⟩)
     | _=>v = .int .i64 (idT ts (kidN U k):Int)) (by kernel_rfl) (by kernel_rfl) 57 (by kernel_rfl) (by rfl) ?_ ?_ ?_
    · intro i hi v u1 u2 hb h
      match i,hi with
      | 0,_=>exact h
      | 1,_=>exact h
      | 2,_=>exact h
      | 3,_=>exact h
      | 4,_=>exact h
      | 5,_=>exact h
      | 6,_=>exact h
      | 7,_=>exact h
      | 8,_=>exact h
      | 9,_=>exact h
    · intro i o hi ho ρ w1 hb hc1 hc2 hc3 hk
      match i,hi with
      | 0, _ =>
        obtain rfl:=Option.some.inj ho
        have g0:ρ (.tmp 5) = .pointer (some ⟨pv,0,none⟩):=hk 5 (by simp [Op.operands,Call.operands])
        have k1:=KV.out.later hb
        have z0:=k1.cell 0 rfl
        clear hk hb IH hcor HI HH HS
        go_simp
        exact Below.refl _ _
      | 1, _ =>
        obtain rfl:=Option.some.inj ho
        have g0:ρ (.tmp 6) = .pointer (some ⟨w.heap.size,0,none⟩):=hk 6 (by simp [Op.operands,Call.operands])
        have k1:=KC.out.later hb
        obtain ⟨z0,z1,z2,z3⟩:=k1.c4
        clear hk hb IH hcor HI HH HS
        go_simp
        exact Below.refl _ _
      | 2, _ =>
        obtain rfl:=Option.some.inj ho
        have g0:ρ (.tmp 11) = .int .i64 (k:Int):=hk 11 (by simp [Op.operands,Call.operands])
        clear hk hb IH hcor HI HH HS
        go_simp
        exact Below.refl _ _
      | 3, _ =>
        obtain rfl:=Option.some.inj ho
        have g0:ρ (.tmp 46)=cubeV a.x a.y a.z ((m:Int)+3):=hk 46 (by simp [Op.operands,Call.operands])
        have g1:ρ (.tmp 47) = .int .i64 (k:Int):=hk 47 (by simp [Op.operands,Call.operands])
        have h4:=hcork.out w1
        have H4:=Bx.mk h4
        clear h4
        clear hk hb IH hcor HI HH HS
        go_simp
        all_goals exact H4.out
      | 4, _ =>
        obtain rfl:=Option.some.inj ho
        have g0:ρ (.tmp 11) = .int .i64 (k:Int):=hk 11 (by simp [Op.operands,Call.operands])
        clear hk hb IH hcor HI HH HS
        go_simp
        exact Below.refl _ _
      | 5, _ =>
        obtain rfl:=Option.some.inj ho
        have g0:ρ (.tmp 9) = .pointer (some ⟨gx,0,none⟩):=hk 9 (by simp [Op.operands,Call.operands])
        have g1:ρ (.tmp 49) = .int .i64 (k:Int):=hk 49 (by simp [Op.operands,Call.operands])
        clear hk hb IH hcor HI HH HS
        go_simp
        exact Below.refl _ _
      | 6, _ =>
        obtain rfl:=Option.some.inj ho
        have g0:ρ (.tmp 50) = .pointer (some ⟨gx,k,none⟩):=hk 50 (by simp [Op.operands,Call.operands])
        have z0:=(HX.out.of_block (hb.block gx HX.out.lt)).cell hlt
        clear hk hb IH hcor HI HH HS
        go_simp
        exact Below.refl _ _
      | 7, _ =>
        obtain rfl:=Option.some.inj ho
        have g0:ρ (.tmp 11) = .int .i64 (k:Int):=hk 11 (by simp [Op.operands,Call.operands])
        clear hk hb IH hcor HI HH HS
        go_simp
        exact Below.refl _ _
      | 8, _ =>
        obtain rfl:=Option.some.inj ho
        have g0:ρ (.tmp 10) = .pointer (some ⟨gy,0,none⟩):=hk 10 (by simp [Op.operands,Call.operands])
        have g1:ρ (.tmp 52) = .int .i64 (k:Int):=hk 52 (by simp [Op.operands,Call.operands])
        clear hk hb IH hcor HI HH HS
        go_simp
        exact Below.refl _ _
      | 9, _ =>
        obtain rfl:=Option.some.inj ho
        have g0:ρ (.tmp 53) = .pointer (some ⟨gy,k,none⟩):=hk 53 (by simp [Op.operands,Call.operands])
        have z0:=(HY.out.of_block (hb.block gy HY.out.lt)).cell hlt
        clear hk hb IH hcor HI HH HS
        go_simp
        exact Below.refl _ _
    · intro vs W1 hlen hb hR
      match vs,hlen with
      | [v0, v1, v2, v3, v4, v5, v6, v7, v8, v9], _ =>
        have r0:v0=diffV ps po pv:=hR 0 v0 rfl
        have r1:v1=cubeV a.x a.y a.z ((m:Int)+3):=hR 1 v1 rfl
        have r2:v2 = .int .i64 (k:Int):=hR 2 v2 rfl
        have r3:v3=cubeV (a.x+chX k (2 ^ (m+2))) (a.y+chY k (2 ^ (m+2))) (a.z+chZ k (2 ^ (m+2))) ((m:Int)+2):=hR 3 v3 rfl
        have r4:v4 = .int .i64 (k:Int):=hR 4 v4 rfl
        have r5:v5 = .pointer (some ⟨gx,k,none⟩):=hR 5 v5 rfl
        have r6:v6 = .int .i64 (idT ts (kidN T k):Int):=hR 6 v6 rfl
        have r7:v7 = .int .i64 (k:Int):=hR 7 v7 rfl
        have r8:v8 = .pointer (some ⟨gy,k,none⟩):=hR 8 v8 rfl
        have r9:v9 = .int .i64 (idT ts (kidN U k):Int):=hR 9 v9 rfl
        have hst:=HI.out.st.later hb
        have hvis:=Bx.mk (IH.out k hlt _ W1 (fun j hj=>.inl hj) hst.bel hst)
        have HBb:=Bx.mk hb
        subst r0 r1 r2 r3 r4 r5 r6 r7 r8 r9
        clear hR hst hb KV KC HX HY hcork
        simp only [puts,List.take_succ_cons,List.take_zero,List.drop_succ_cons,List.drop_zero,List.map_cons,List.map_nil,List.zip_cons_cons,List.zip_nil_right,List.foldl_cons,List.foldl_nil]
        go_wp2_with fail
        refine hvis.out.mono ?_
        rintro _ w5 hp
        obtain ⟨rfl,hst5,hk5⟩:=hp
        have kc5:Bk w5 w.heap.size #[a.x,a.y,a.z,.int .i64 ((m:Int)+3)] 39:=(hk5 _ (.inr (.inl rfl)) (by have:=HH.out.lt _ HH.out.av.2.1;omega)).trans (HI.out.kc.later HBb.out)
        have hpo:=HH.out.lt _ HH.out.av.2.1
        have HJ:Bx (DL w0 w Av (fun k=>Av k∨k=w.heap.size∨k=gx∨k=gy) ps po pv sb gx gy ts T U a ((m:Int)+3) (L++D (k+1)) w5):=⟨⟨hst5,kc5,HI.out.kx.of_block ((hk5 gx (.inr (.inr (.inl rfl))) (by omega)).trans (HBb.out.block gx HI.out.kx.lt)),HI.out.ky.of_block ((hk5 gy (.inr (.inr (.inr rfl))) (by omega)).trans (HBb.out.block gy HI.out.ky.lt)),fun j hj hne=>((hk5 j (.inl hj) hne).trans (HBb.out.block j (HI.out.st.lt j (.inl hj)))).trans (HI.out.keep j hj hne)⟩⟩
        clear hst5 hk5 kc5 hpo HI HBb hvis
        go_wp2_with fail
        go_roundw
        case rel=>exact ⟨k+1,by omega,by go_num,HJ⟩
        case measure=>simp [intOf];omega
  · obtain rfl:k=8:=by omega
    have t0:decide (((8:Nat):Int)<8)=false:=by decide
    go_wp2_with fail
    go_end0
    exact ⟨rfl,HI.out.st.avoid (Below.refl _ _) (fun k hk=>.inl (.inl hk)) (fun k hk=>HI.out.st.lt k (.inl hk)) HH.out.av,HI.out.keep⟩
end
section
open Go.RowKit Go.Sort Go.Maps
open Oct
theorem add_sub {ts:List Tr} (hG:Good ts) : ∀ (t:Tr),t∈ts → ∀ us:List Tr,(∀ x∈us,x∈ts) → ∀ x∈Tr.add t us,x∈ts
 | .uni c, ht, us, hs => by
   rw [Tr.add_uni];intro x hx
   rcases Tr.of_mem_ins hx with h | rfl
   · exact hs _ h
   · exact ht
 | .brick l, ht, us, hs => by
   rw [Tr.add_brick];intro x hx
   rcases Tr.of_mem_ins hx with h | rfl
   · exact hs _ h
   · exact ht
 | .node d ch, ht, us, hs => by
   rw [Tr.add_node]
   split
   · exact hs
   · intro x hx
     rw [List.mem_append] at hx
     rcases hx with hx | hx
     · exact Tr.addK_ind (P:=fun a => ∀ x∈a,x∈ts) (fun i a ha=>add_sub hG (ch i) (hG.closed.2 d ch ht i) a ha) 8 (Nat.le_refl _) us hs x hx
     · rw [List.mem_singleton] at hx;subst hx;exact ht
theorem intKeyT:Keyed Tryz.prog 3:=int_keyed Tryz.underlying3
theorem keyOf_idT (ts:List Tr) (t:Tr) (h:idT ts t≤9223372036854775807):keyOf Tryz.prog 3 (.int .i64 (idT ts t:Int))=some (.int .i64 (idT ts t:Int)):=keyOf_int_mk Tryz.underlying3 (WalkArith.wf_i64 ⟨by omega,by omega⟩)
abbrev nodesV (pm ps pv po:Nat):Value:=.func (.func 86) #[] #[.pointer (some ⟨pm,0,none⟩),.pointer (some ⟨ps,0,none⟩),.pointer (some ⟨pv,0,none⟩),.pointer (some ⟨po,0,none⟩)]
noncomputable abbrev nids (ts us:List Tr):List Int:=us.map fun t=>(idT ts t:Int)
theorem ne_id {ts:List Tr} {t T:Tr} (ht:t∈ts) (hT:T∈ts) (e : ¬t=T):(Value.int .i64 (idT ts t:Int)) ≠ .int .i64 (idT ts T:Int):=by
 have hne:idT ts t ≠ idT ts T:=fun h=>e (idT_inj ht hT h)
 generalize idT ts t=a at *
 generalize idT ts T=b at *
 intro h
 injection h with _ h
 omega
structure NSt (w0:World) (ps po pv pm mb sb:Nat) (ts us An:List Tr) (W:World):Prop where
 bel:Below w0.heap.size w0 W
 ks:Bk W ps #[.pointer (some ⟨sb,0,none⟩)] 32
 kv:Bk W pv #[nodesV pm ps pv po] 130
 km:Bk W pm #[.map (some mb)] 129
 ko : ∃ v,Bk W po #[v] 26∧Own W w0.heap.size 3 .i64 v (nids ts us) ∧ ∀ g,v.ownBlock=some g→g ≠ ps∧g ≠ pv∧g ≠ pm∧g ≠ mb∧g ≠ po
 mp : ∃ f,MapV 3 W mb (us.length+An.length) f ∧ ∀ t∈ts,(t∈us∨t∈An→f (.int .i64 (idT ts t:Int))=some (.bool true))∧(¬(t∈us∨t∈An)→f (.int .i64 (idT ts t:Int))=none)
 ge:w0.heap.size≤ps∧w0.heap.size≤po∧w0.heap.size≤pv∧w0.heap.size≤pm∧w0.heap.size≤mb
 ne:ps ≠ po∧pv ≠ po∧pm ≠ po∧mb ≠ po∧mb ≠ ps∧mb ≠ pv∧mb ≠ pm
theorem NSt.later {w0 W W':World} {ps po pv pm mb sb:Nat} {ts us An:List Tr} (h:NSt w0 ps po pv pm mb sb ts us An W) (hb:Below W.heap.size W W'):NSt w0 ps po pv pm mb sb ts us An W':=by
 obtain ⟨v,k1,k2,k3⟩:=h.ko
 obtain ⟨f,f1,f2⟩:=h.mp
 exact ⟨h.bel.trans (hb.mono h.bel.size),h.ks.later hb,h.kv.later hb,h.km.later hb,⟨v,k1.later hb,k2.below hb,k3⟩,⟨f,f1.of_block (hb.block _ f1.lt),f2⟩,h.ge,h.ne⟩
theorem zeroBool (u:World):(zeroValue 4).run Tryz.prog u = .ok (.bool false) u:=by go_simp
theorem NSt.look {w0 W:World} {ps po pv pm mb sb:Nat} {ts us An:List Tr} (h:NSt w0 ps po pv pm mb sb ts us An W) (hlen:ts.length≤4194304) {T:Tr} (hT:T∈ts) :
 ((T∈us∨T∈An)→(Instr.lookup 129 (.map (some mb)) (.int .i64 (idT ts T:Int)) false).run Tryz.prog W = .ok (.bool true) W) ∧
 (¬(T∈us∨T∈An)→(Instr.lookup 129 (.map (some mb)) (.int .i64 (idT ts T:Int)) false).run Tryz.prog W = .ok (.bool false) W):=by
 obtain ⟨f,f1,f2⟩:=h.mp
 have hlt:=idT_lt hT
 have hk:=(MapV.look intKeyT Tryz.underlying129 (zeroBool W) f1 (keyOf_idT ts T (by omega))).1
 refine ⟨fun hm=>?_,fun hm=>?_⟩
 · rw [(f2 T hT).1 hm] at hk;exact hk
 · rw [(f2 T hT).2 hm] at hk;exact hk
theorem NSt.mark {w0 W:World} {ps po pv pm mb sb:Nat} {ts us An:List Tr} (h:NSt w0 ps po pv pm mb sb ts us An W) (hlen:ts.length≤4194304) (hn:us.length+An.length<maxLen) {T:Tr} (hT:T∈ts) :
 ∃ W',(Instr.mapUpdate 129 (.map (some mb)) (.int .i64 (idT ts T:Int)) (.bool true)).run Tryz.prog W = .ok () W'∧NSt w0 ps po pv pm mb sb ts us (T::An) W':=by
 obtain ⟨f,f1,f2⟩:=h.mp
 obtain ⟨v,k1,k2,k3⟩:=h.ko
 have hlt:=idT_lt hT
 obtain ⟨W',hr,m1,m2,m3⟩:=MapV.put intKeyT Tryz.underlying129 f1 hn (keyOf_idT ts T (by omega)) (.bool true)
 have hbl : ∀ k,k<W.heap.size→k ≠ mb→W'.heap[k]? = W.heap[k]? := fun k hk hne=>m2.block k hk (fun e=>hne (Option.some.inj e))
 refine ⟨W',hr,⟨?_,(hbl _ h.ks.lt (Ne.symm h.ne.2.2.2.2.1)).trans h.ks,(hbl _ h.kv.lt (Ne.symm h.ne.2.2.2.2.2.1)).trans h.kv,(hbl _ h.km.lt (Ne.symm h.ne.2.2.2.2.2.2)).trans h.km,⟨v,(hbl _ k1.lt (Ne.symm h.ne.2.2.2.1)).trans k1,k2.grown m2 ?_,k3⟩,⟨_,by simpa [Nat.add_assoc] using m1,fun t ht=>⟨fun hm=>?_,fun hm=>?_⟩⟩,h.ge,h.ne⟩⟩
 · exact h.bel.trans ⟨m2.os,m2.tape,m2.output,m2.size,fun k hk=>hbl k (Nat.lt_of_lt_of_le hk h.bel.size) (by have:=h.ge.2.2.2.2;omega)⟩
 · right;intro e;exact (k3 mb e).2.2.2.1 rfl
 · by_cases e:t=T
   · subst e;exact putV_same _ _ _
   · have hne:(Value.int .i64 (idT ts t:Int)) ≠ .int .i64 (idT ts T:Int):=ne_id ht hT e
     rw [putV_other f _ hne]
     refine (f2 t ht).1 (hm.imp_right fun hm=>?_)
     rcases List.mem_cons.1 hm with rfl | hm
     · exact absurd rfl e
     · exact hm
 · have e:t ≠ T:=fun e=>hm (.inr (e ▸ List.mem_cons_self))
   have hne:(Value.int .i64 (idT ts t:Int)) ≠ .int .i64 (idT ts T:Int):=ne_id ht hT e
   rw [putV_other f _ hne]
   exact (f2 t ht).2 fun hm'=>hm (hm'.imp_right fun h=>List.mem_cons_of_mem _ h)
theorem NSt.push {w0 W W3:World} {ps po pv pm mb sb:Nat} {ts us An:List Tr} {T:Tr} {v v':Value} (h:NSt w0 ps po pv pm mb sb ts us (T::An) W) (hk:Bk W po #[v] 26) (hg:W.grownBy W3 v.ownBlock) (hown:Own W3 w0.heap.size 3 .i64 v' (nids ts us++[(idT ts T:Int)])) (hat:v'.ownBlock=v.ownBlock∨(∃ g,v'.ownBlock=some g∧W.heap.size≤g)) :
 NSt w0 ps po pv pm mb sb ts (us++[T]) An (W3.setCell ⟨po,0,none⟩ v'):=by
 obtain ⟨v2,k1,k2,k3⟩:=h.ko
 obtain rfl:v2=v:=by
  have e:=(k1.cell 0 rfl).symm.trans (hk.cell 0 rfl)
  simpa using e
 obtain ⟨f,f1,f2⟩:=h.mp
 have hlps:=h.ks.lt
 have hlpv:=h.kv.lt
 have hlpm:=h.km.lt
 have hlpo:=k1.lt
 have hlmb:=f1.lt
 have hnv : ∀ g,v'.ownBlock=some g→g ≠ ps∧g ≠ pv∧g ≠ pm∧g ≠ mb∧g ≠ po:=by
  intro g hgv
  rcases hat with e | ⟨g',e,hge⟩
  · exact k3 g (e.symm.trans hgv)
  · rw [e] at hgv
    obtain rfl:=Option.some.inj hgv
    refine ⟨?_,?_,?_,?_,?_⟩ <;> omega
 have keep : ∀ k,k<W.heap.size→k ≠ po→v2.ownBlock ≠ some k→(W3.setCell ⟨po,0,none⟩ v').heap[k]? = W.heap[k]? := fun k hk hne hno=>(RowKit.Below.heap_setCell _ _ _ _ (fun e=>hne e)).trans (hg.block k hk (fun e=>hno e.symm))
 have hpo:Bk W3 po #[v2] 26:=(hg.block po hlpo (fun e=>(k3 po e.symm).2.2.2.2 rfl)).trans k1
 have hgs:=grown_setCell W3 ⟨po,0,none⟩ v'
 refine ⟨?_,(keep ps hlps h.ne.1 (fun e=>(k3 _ e).1 rfl)).trans h.ks,(keep pv hlpv h.ne.2.1 (fun e=>(k3 _ e).2.1 rfl)).trans h.kv,(keep pm hlpm h.ne.2.2.1 (fun e=>(k3 _ e).2.2.1 rfl)).trans h.km,⟨v',Bk.put1 hpo v',?_,hnv⟩,⟨f,?_,fun t ht=>?_⟩,h.ge,h.ne⟩
 · refine h.bel.trans ⟨hgs.os.trans hg.os,hgs.tape.trans hg.tape,hgs.output.trans hg.output,Nat.le_trans hg.size hgs.size,fun k hk=>?_⟩
   refine keep k (Nat.lt_of_lt_of_le hk h.bel.size) (by have:=h.ge.2.1;omega) (fun e=>?_)
   have:=(k2.lt k e).1;omega
 · rw [show nids ts (us++[T])=nids ts us++[(idT ts T:Int)] by simp [nids]]
   exact Own.grown hown hgs (by
    cases hv:v'.ownBlock with
    | none=>exact .inl rfl
    | some g=>exact .inr (fun e=>(hnv g hv).2.2.2.2 (by injection e)))
 · have:=f1.of_block (keep mb hlmb h.ne.2.2.2.1 (fun e=>(k3 _ e).2.2.2.1 rfl))
   simpa [Nat.add_assoc,Nat.add_comm 1] using this
 · rw [List.mem_append,List.mem_singleton]
   have:=f2 t ht
   rw [List.mem_cons] at this
   refine ⟨fun hm=>this.1 ?_,fun hm=>this.2 (fun h=>hm ?_)⟩
   · rcases hm with (hm | hm) | hm
     · exact .inl hm
     · exact .inr (.inl hm)
     · exact .inr (.inr hm)
   · rcases h with h | h | h
     · exact .inl (.inl h)
     · exact .inl (.inr h)
     · exact .inr h
end
end Go.Proofs.YtfcbajmjaifjlaaGreat
