/- Cn1, RlN, Hs1, Hs0, Cn2: joined by program, for one claim. -/
import Derived.Test.YtfcbajmjaifjlaaGreatM30
import Derived.Test.YtfcbajmjaifjlaaGreatM29
import Derived.OrdersIn
import Derived.Test.YtfcbajmjaifjlaaGreatM28
set_option linter.unusedVariables false
set_option linter.unusedSimpArgs false
namespace Go.Proofs.YtfcbajmjaifjlaaGreat
section
open Go.RowKit Go.Sort Go.Maps
open Oct
theorem KpE.putObj {E:Nat→Prop} {n₀:Nat} (W:World) (l:Nat) (o o':Obj) (hl:n₀≤l) (h:W.heap[l]? = some o) (hc:o.isCells=false):KpE E n₀ W (W.putObj l o'):=by
 have hg:=grownBy_putObj' W l o'
 refine ⟨hg.os,hg.tape,hg.output,hg.size,fun k x hk _ hx=>(hg.block k (Array.getElem?_eq_some_iff.1 hk).1 (fun e=>?_)).trans hk⟩
 obtain rfl:=Option.some.inj e
 rw [h] at hk
 obtain rfl:=Option.some.inj hk
 rcases hx with hx | hx
 · omega
 · rw [hc] at hx;cases hx
theorem KpE.grow {E:Nat→Prop} {n₀:Nat} {W W':World} {g:Nat} (hg:W.grownBy W' (some g)) (hE:E g):KpE E n₀ W W' :=
 ⟨hg.os,hg.tape,hg.output,hg.size,fun k o hk hne _=>(hg.block k (Array.getElem?_eq_some_iff.1 hk).1 (fun e=>hne (Option.some.inj e ▸ hE))).trans hk⟩
theorem keepsFrom_below {B:Nat} {W W':World} (h:Below W.heap.size W W'):KeepsFrom B W W':=⟨h.size,fun k o _ hk _=>(h.block k (Array.getElem?_eq_some_iff.1 hk).1).trans hk⟩
structure Rnd (E:Nat→Prop) (n₀:Nat) (W W':World):Prop where
 kf:KeepsFrom n₀ W W'
 kp:KpE E n₀ W W'
theorem Rnd.below {E:Nat→Prop} {n₀:Nat} {W W':World} (h:Below W.heap.size W W'):Rnd E n₀ W W':=⟨keepsFrom_below h,KpE.below h⟩
theorem Rnd.trans {E:Nat→Prop} {n₀:Nat} {A B C:World} (h:Rnd E n₀ A B) (h':Rnd E n₀ B C):Rnd E n₀ A C:=⟨h.kf.trans h'.kf,h.kp.trans h'.kp⟩
theorem Rnd.set {E:Nat→Prop} {n₀:Nat} (W:World) (g:Nat) (v:Value) (hE:E g):Rnd E n₀ W (W.setCell ⟨g,0,none⟩ v) :=
 ⟨(KeepsOthers.setCell _ _ _).from _,KpE.grow (grown_setCell W ⟨g,0,none⟩ v) hE⟩
theorem ownFrom_kpE {β:Type} {E:Nat→Prop} {w₀:World}:OwnFrom w₀.heap.size (fun (_:β) W=>KpE E w₀.heap.size w₀ W):=fun _ X Y row hs hg hr =>
 ⟨hg.os.trans hs.os,hg.tape.trans hs.tape,hg.output.trans hs.output,Nat.le_trans hs.size hg.size,fun k o hk hE hc=>by
  have hX:=hs.blk k o hk hE hc
  refine (hg.block k (Array.getElem?_eq_some_iff.1 hX).1 (fun e=>?_)).trans hX
  have h1:=(hr k e.symm).1
  have h2:=(Array.getElem?_eq_some_iff.1 hk).1
  omega⟩
theorem ownFrom_bk {β:Type} {B:Nat} (g:Nat) (f:β→Array Value) (t:TypeId):OwnFrom B (fun s W=>Bk W g (f s) t):=fun s X Y row hs hg hr =>
 (hg.block g (Array.getElem?_eq_some_iff.1 hs).1 (fun e=>by
  obtain ⟨_,o,ho,hc⟩:=hr g e.symm
  rw [show X.heap[g]? = _ from hs] at ho
  obtain rfl:=Option.some.inj ho
  cases hc)).trans hs
def cntS (c:Int) (pre:List (Pt × Nat × Tr)):Int:=wrap64 (((pre.map (cntL c)).sum:Nat):Int)
theorem wrap_add (a b:Int):wrap64 (wrap64 a+b)=wrap64 (a+b):=by
 simp only [wrap64,IntKind.wrap]
 omega
theorem leaf_facts (ts:List Tr) (hG:Good ts) (N:Nat) : ∀ (n:Nat) (a:Pt) (T:Tr),InT N n a→Dep n T→T∈ts → ∀ x∈leavesT n a T,x.2.2∈ts∧InT N x.2.1 x.1∧((∃ c,x.2.2 = .uni c)∨(x.2.1=0 ∧ ∃ l,x.2.2 = .brick l)):=by
 intro n
 induction n with
 | zero =>
   intro a T hin hD hT x hx
   cases hD with
   | uni _ c=>rw [leavesT_uni,List.mem_singleton] at hx;subst hx;exact ⟨hT,hin,.inl ⟨c,rfl⟩⟩
   | brick l=>rw [leavesT_brick,List.mem_singleton] at hx;subst hx;exact ⟨hT,hin,.inr ⟨rfl,l,rfl⟩⟩
 | succ n ih =>
   intro a T hin hD hT x hx
   cases hD with
   | uni _ c=>rw [leavesT_uni,List.mem_singleton] at hx;subst hx;exact ⟨hT,hin,.inl ⟨c,rfl⟩⟩
   | node _ ch h =>
     unfold leavesT at hx
     obtain ⟨i,-,hi⟩:=List.mem_flatMap.1 hx
     exact ih _ (ch i) (hin.kid i.isLt) (h i) (hG.closed.2 _ ch hT i) x hi
theorem cntS_snoc (c:Int) (pre:List (Pt × Nat × Tr)) (x:Pt × Nat × Tr):cntS c (pre++[x])=wrap64 ((((pre.map (cntL c)).sum:Nat):Int)+((cntL c x:Nat):Int)):=by
 unfold cntS
 rw [List.map_append,List.sum_append]
 simp
structure CSt (E:Nat→Prop) (n₀ nb B:Nat) (c S e:Int) (ys:List Int) (v:Value) (W:World) (j:Nat) (wr:World):Prop where
 rnd:Rnd E n₀ W wr
 kn:Bk wr nb #[.int .i64 (wrap64 (S+(((ys.take j).count c:Nat):Int) * e))] 3
 own:Own wr B 3 .i64 v ys
theorem CSt.skip {E:Nat→Prop} {n₀ nb B:Nat} {c S e:Int} {ys:List Int} {v:Value} {W:World} {j:Nat} {wr:World} (h:CSt E n₀ nb B c S e ys v W j wr) {x:Int} (hx:ys[j]? = some x) (hc:x ≠ c):CSt E n₀ nb B c S e ys v W (j+1) wr:=by
 refine ⟨h.rnd,?_,h.own⟩
 have hj:=(List.getElem?_eq_some_iff.1 hx)
 rw [List.take_succ_eq_append_getElem hj.1,hj.2,List.count_append,List.count_singleton]
 simpa [hc] using h.kn
theorem CSt.hit {E:Nat→Prop} {n₀ nb B:Nat} {c S e:Int} {ys:List Int} {v:Value} {W:World} {j:Nat} {wr:World} (h:CSt E n₀ nb B c S e ys v W j wr) {e1:Int} (he1:e1=e) (hE:E nb) (hnb:nb<B) (hx:ys[j]? = some c):CSt E n₀ nb B c S e ys v W (j+1) (wr.setCell ⟨nb,0,none⟩ (.int .i64 (wrap64 (wrap64 (S+(((ys.take j).count c:Nat):Int) * e)+e1)))):=by
 rw [he1];clear he1
 refine ⟨h.rnd.trans (Rnd.set _ _ _ hE),?_,h.own.grown (grown_setCell wr ⟨nb,0,none⟩ _) (by
  cases hv:v.ownBlock with
  | none=>exact .inl rfl
  | some g=>exact .inr (fun e'=>by have h1:=(h.own.lt g hv).1;have e2:g=nb:=Option.some.inj e';omega))⟩
 have hj:=(List.getElem?_eq_some_iff.1 hx)
 rw [List.take_succ_eq_append_getElem hj.1,hj.2,List.count_append,List.count_singleton]
 simp only [beq_self_eq_true,if_true]
 rw [wrap_add,show S+(((ys.take j).count c+1:Nat):Int) * e=S+(((ys.take j).count c:Nat):Int) * e+e by rw [Int.natCast_add,Int.add_mul];simp;omega]
 exact Bk.put1 h.kn _
theorem own_cell {w:World} {B:Nat} {e:TypeId} {k:IntKind} {b off n cap:Nat} {xs:List Int} (h:Own w B e k (.slice (some ⟨b,off,none⟩) n cap) xs) {j:Nat} {x:Int} (hx:xs[j]? = some x):w.cell? ⟨b,off+j,none⟩=some (.int k x):=by
 obtain ⟨b',off',he,hc⟩:=h.sl j x hx
 injection he with he
 injection he with h1 h2
 subst h1;subst h2
 exact hc
end
section
open Go.Sort Go.RowKit
theorem upon_in {P:Program} {o:Oper} {a:Act} {next:Act→World→Prop} {Q:Exit→Act→World→Prop} (l n:Nat) {r:Result Next} (h:o.upon P a next Q r):o.uponIn (Fence.wide.inRound l) n P a next Q r:=by
 cases r with
 | ok x w' =>
   cases x with
   | value v=>exact h
   | skip=>exact h
   | defer d=>exact h
   | enter f args=>exact ⟨fun e=>(by cases e),(callsIn_wide.2 h).inRound l⟩
   | row row args=>exact ⟨fun e=>(by cases e),fun c cs _=>by
    obtain ⟨v,w2,r,s⟩:=h c cs
    exact ⟨v,w2,r,stepsIn_wide.2 s⟩⟩
   | round l f tmps assign body=>exact h.elim
   | _=>exact h.elim
 | halt x w' =>
   cases x with
   | panic v=>exact h
   | _=>exact h.elim
section
variable {P:Program} {Q:Exit→Act→World→Prop}
theorem wpOp_in (l n:Nat) {ops:Array Oper} (hnd : ∀ (i:Nat) (o:Oper) (c:Call),ops[i]? = some o→o.op ≠ .defer c) (hLo : ¬LetsOut Q) {i:Nat} {K:Act→World→Prop} {a:Act} {w:World} (h:wpOp P ops Q i K a w):wpOpIn (Fence.wide.inRound l) n P ops Q i K a w:=by
 unfold wpOp at h
 unfold wpOpIn
 split
 · rename_i ho;simpa only [ho] using h
 · rename_i o ho
   simp only [ho] at h
   split
   · rename_i hw
     rw [if_pos hw] at h
     rcases h with h | h
     · refine ⟨fun f _=>trivial,?_⟩
       rw [Fence.inRound_round,Oper.semAt_some l _ _ (fun c=>hnd i o c ho)]
       exact upon_in l n h
     · exact absurd h.2 hLo
   · rename_i hw
     rw [if_neg hw] at h
     exact ⟨fun f _=>trivial,h⟩
theorem wpAny_in (l n:Nat) {ops:Array Oper} {md:Region.Mode} (hnd : ∀ (i:Nat) (o:Oper) (c:Call),ops[i]? = some o→o.op ≠ .defer c) (hLo : ¬LetsOut Q) : ∀ (fuel:Nat) (listed:Array Bool) (a:Act) (w:World),wpAny P md ops Q fuel listed a w→wpAnyIn (Fence.wide.inRound l) n P md ops Q fuel listed a w
 | 0,_,_,_,h=>h
 | fuel+1,listed,a,w,h=>⟨h.1,fun i hi=>wpOpIn_mono (fun a' w' h'=>wpAny_in l n hnd hLo fuel _ a' w' h') (wpOp_in l n hnd hLo (h.2 i hi))⟩
def noDefer (l:List Oper):Bool:=l.all fun o=>match o.op with | .defer _=>false | _=>true
theorem noDefer_spec {l:List Oper} (h:noDefer l=true) (i:Nat) (o:Oper) (c:Call) (ho:l.toArray[i]? = some o):o.op ≠ .defer c:=by
 intro e
 have hm:o∈l:=List.mem_of_getElem? (by simpa using ho)
 have:=List.all_eq_true.1 h o hm
 rw [e] at this
 cases this
theorem wpIn_region_relT {l:List Oper} {W:World} {a:Act} {id:Nat} (lo k:Nat) (n:Nat) (R:Nat→Value→World→Prop) (hm:P.follows .mixedOrders=true) (hB:headRT l n=true) (hnd:noDefer l=true) (hLo : ¬LetsOut Q) (m:Nat) (hdm:dstB l m=true) (ham:a.tmps.size=m)
 (hf : ∀ i,i<n→Firm (R i))
 (hop : ∀ i o,i<n→l[i]? = some o → ∀ (ρ:Operand→Value) w,Below W.heap.size W w→(∀ v,ρ (.const v)=v)→(∀ g,ρ (.global g) = .pointer (some ⟨g,0,none⟩))→(∀ f,ρ (.func f) = .func (.func f) #[] #[]) →
  (∀ d,.tmp d∈o.op.operands→Known l n R a d (ρ (.tmp d)) w)→relUpon P w (R i) ((execOp ρ o).run P w))
 (h : ∀ (vs:List Value) w',vs.length=n→Below W.heap.size W w'→(∀ i v,vs[i]? = some v→R i v w')→wpList P l.toArray Q (l.drop n) (puts (((l.take n).map (·.dst)).zip vs) a) w'):(Code.region id l.toArray true).wpIn (Fence.wide.inRound lo) k P Q a W :=
 wpIn_region_any hm (wpAny_in lo k (noDefer_spec hnd) hLo _ _ _ _ (any_relT n R hB m hdm ham hf hop h))
end
end
section
open Go.RowKit Go.Sort Go.Maps
open Oct
theorem any_stop {p:Int→Bool} {xs:List Int} {k:Nat} {x:Int} (hx:xs[k]? = some x) (h:p x=true):xs.any p=true:=List.any_eq_true.2 ⟨x,List.mem_of_getElem? hx,h⟩
theorem any_step {p:Int→Bool} {xs:List Int} {k:Nat} {x:Int} (hx:xs[k]? = some x) (hall:(xs.take k).any p=false) (h:p x=false):(xs.take (k+1)).any p=false:=by
 have hj:=List.getElem?_eq_some_iff.1 hx
 rw [List.take_succ_eq_append_getElem hj.1,hj.2,List.any_append,hall]
 simp [h]
theorem any_end {p:Int→Bool} {xs:List Int} {n:Nat} (hn:Bx (xs.length=n)) (h:(xs.take n).any p=false):xs.any p=false:=by
 rwa [List.take_of_length_le (by have:=hn.out;omega)] at h
set_option maxHeartbeats 400000 in
theorem idx_any (q:Int) (a:Option Addr) (cap:Nat) (xs:List Int) (w:World) (hl:xs.length≤1000000000) (h:Sl w .i64 a xs) :
 Calls Tryz.prog 138 #[.slice a xs.length cap,q] w fun e w'=>(∃ r:Int,e = .returned (.int .i64 r)∧(decide (0≤r)=xs.any (q == ·)))∧w=w':=by
 generalize hn:xs.length=n at hl
 have Hn:=Bx.mk hn;clear hn
 go_enter Tryz.func138,Tryz.ntmps138
 go_wp2
 go_loop [8] (fun i => ∃ k:Nat,k≤n∧i = .int .i64 k∧(xs.take k).any (q == ·)=false) (fun i=>n - (intOf i).toNat)
 case atStart=>exact ⟨0,Nat.zero_le _,rfl,by simp⟩
 case round =>
  obtain ⟨k,hk,rfl,hall⟩:=hrel
  have Hall:=Bx.mk hall;clear hall
  by_cases hlt:k<n
  · obtain ⟨x,hx⟩:=at_lt Hn hlt
    obtain ⟨b,off,rfl,hc⟩:=h k x hx
    have Hx:=Bx.mk hx;clear h hx
    cases hcx:(q == ·) x with
    | true =>
      have hf:=Bx.mk (any_stop (p:=(q == ·)) Hx.out hcx)
      have t1:(q == x)=true:=hcx
      go_wp2_with fail
      go_ret
      exact ⟨⟨_,rfl,by rw [hf.out];simp⟩,rfl⟩
    | false =>
      have hf:=Bx.mk (any_step (p:=(q == ·)) Hx.out Hall.out hcx)
      have t1:(q == x)=false:=hcx
      go_wp2_with fail
      go_round
      case rel=>exact ⟨k+1,by omega,by go_num,hf.out⟩
      case measure=>simp [intOf];omega
  · have hkn:k=n:=by omega
    have hf:=Bx.mk (any_end (p:=(q == ·)) Hn (hkn ▸ Hall.out))
    clear hkn
    go_wp2
    go_ret
    exact ⟨⟨_,rfl,by rw [hf.out];simp⟩,rfl⟩
theorem contains_int (q:Int) (a:Option Addr) (cap:Nat) (xs:List Int) (w:World) (hl:xs.length≤1000000000) (h:Sl w .i64 a xs) :
 Calls Tryz.prog 78 #[.slice a xs.length cap,q] w fun e w'=>e = .returned (.bool (xs.any (q == ·)))∧w=w':=by
 go_enter Tryz.func78,Tryz.ntmps78
 go_wp2_with (go_at_call 138;refine (idx_any q a cap xs _ hl h).mono ?_;rintro e w' ⟨⟨r,rfl,hr⟩,rfl⟩;have Hr:=Bx.mk hr;clear hr)
 go_ret
 exact ⟨ret_bool Hr.out,rfl⟩
theorem has1_any (pc:Nat) (a:Option Addr) (cap:Nat) (cs:List Int) (x:Int) (w:World) (hl:cs.length≤1000000000) (h:Sl w .i64 a cs) (kc:Bk w pc #[.slice a cs.length cap] 26) :
 Calls Tryz.prog 77 #[x,.pointer (some ⟨pc,0,none⟩)] w fun e w'=>e = .returned (.bool (cs.any (x == ·)))∧w=w':=by
 have c0:=kc.cell 0 rfl
 have H:=Bx.mk (contains_int x a cap cs w hl h)
 clear kc hl h
 generalize cs.length=n at *
 go_enter Tryz.func77,Tryz.ntmps77
 go_wp2_with ((with_reducible refine H.out.mono ?_);rintro _ _ ⟨rfl,rfl⟩)
 go_ret
 exact ⟨rfl,rfl⟩
set_option maxHeartbeats 400000 in
theorem idxf_any (pc:Nat) (p:Int→Bool) (a:Option Addr) (cap:Nat) (xs:List Int) (w:World) (hl:xs.length≤1000000000) (h:Sl w .i64 a xs) (hcl : ∀ x:Int,Calls Tryz.prog 77 #[x,.pointer (some ⟨pc,0,none⟩)] w fun e w'=>e = .returned (.bool (p x))∧w=w') :
 Calls Tryz.prog 137 #[.slice a xs.length cap,.func (.func 77) #[] #[.pointer (some ⟨pc,0,none⟩)]] w fun e w'=>(∃ r:Int,e = .returned (.int .i64 r)∧(decide (0≤r)=xs.any p))∧w=w':=by
 generalize hn:xs.length=n at hl
 have Hn:=Bx.mk hn;clear hn
 have Hcl:=Bx.mk hcl
 clear hcl
 go_enter Tryz.func137,Tryz.ntmps137
 go_wp2
 go_loop [8] (fun i => ∃ k:Nat,k≤n∧i = .int .i64 k∧(xs.take k).any p=false) (fun i=>n - (intOf i).toNat)
 case atStart=>exact ⟨0,Nat.zero_le _,rfl,by simp⟩
 case round =>
  obtain ⟨k,hk,rfl,hall⟩:=hrel
  have Hall:=Bx.mk hall;clear hall
  by_cases hlt:k<n
  · obtain ⟨x,hx⟩:=at_lt Hn hlt
    obtain ⟨b,off,rfl,hc⟩:=h k x hx
    have Hx:=Bx.mk hx;clear h hx
    cases hcx:p x with
    | true =>
      have hf:=Bx.mk (any_stop (p:=p) Hx.out hcx)
      have Hcl2:=Bx.mk (Hcl.out x);rw [hcx] at Hcl2
      go_wp2_with ((with_reducible refine Hcl2.out.mono ?_);rintro _ _ ⟨rfl,rfl⟩)
      go_ret
      exact ⟨⟨_,rfl,by rw [hf.out];simp⟩,rfl⟩
    | false =>
      have hf:=Bx.mk (any_step (p:=p) Hx.out Hall.out hcx)
      have Hcl2:=Bx.mk (Hcl.out x);rw [hcx] at Hcl2
      go_wp2_with ((with_reducible refine Hcl2.out.mono ?_);rintro _ _ ⟨rfl,rfl⟩)
      go_round
      case rel=>exact ⟨k+1,by omega,by go_num,hf.out⟩
      case measure=>simp [intOf];omega
  · have hkn:k=n:=by omega
    have hf:=Bx.mk (any_end (p:=p) Hn (hkn ▸ Hall.out))
    clear hkn
    go_wp2
    go_ret
    exact ⟨⟨_,rfl,by rw [hf.out];simp⟩,rfl⟩
theorem containsf_any (pc:Nat) (p:Int→Bool) (a:Option Addr) (cap:Nat) (xs:List Int) (w:World) (hl:xs.length≤1000000000) (h:Sl w .i64 a xs) (hcl : ∀ x:Int,Calls Tryz.prog 77 #[x,.pointer (some ⟨pc,0,none⟩)] w fun e w'=>e = .returned (.bool (p x))∧w=w') :
 Calls Tryz.prog 76 #[.slice a xs.length cap,.func (.func 77) #[] #[.pointer (some ⟨pc,0,none⟩)]] w fun e w'=>e = .returned (.bool (xs.any p))∧w=w':=by
 have H:=Bx.mk (idxf_any pc p a cap xs w hl h hcl)
 clear hl h hcl
 go_enter Tryz.func76,Tryz.ntmps76
 go_wp2_with (go_at_call 137;refine H.out.mono ?_;rintro e w' ⟨⟨r,rfl,hr⟩,rfl⟩;have Hr:=Bx.mk hr;clear hr)
 go_ret
 exact ⟨ret_bool Hr.out,rfl⟩
end
section
open Go.RowKit Go.Sort Go.Maps
open Oct
theorem own_cap {w:World} {B:Nat} {e:TypeId} {k:IntKind} {a:Option Addr} {n c:Nat} {xs:List Int} (h:Own w B e k (.slice a n c) xs):xs.length≤c:=by
 rcases h.2 with ⟨e1,hn⟩ | ⟨g,cap,cur,e1,hb,hg,hnc,hcm,hcs,ht⟩
 · omega
 · injection e1 with h1 h2 h3
   omega
theorem own_ne_bk {w:World} {B:Nat} {e t:TypeId} {k:IntKind} {v:Value} {xs:List Int} {g:Nat} {cs:Array Value} (h:Own w B e k v xs) (hb:Bk w g cs t) (hne:e ≠ t):v.ownBlock ≠ some g:=by
 rcases h.2 with ⟨rfl,hn⟩ | ⟨g2,cap,cur,rfl,hb2,hg,hnc,hcm,hcs,ht⟩
 · simp [Value.ownBlock]
 · intro h1
   have h2:g2=g:=by simpa [Value.ownBlock] using h1
   subst h2
   have h3:=hg.symm.trans hb
   injection h3 with h3
   injection h3 with _ h4
   exact hne h4
theorem mul3_le {x y z:Int} (hx:0≤x∧x≤4) (hy:0≤y∧y≤4) (hz:0≤z∧z≤4):x * y * z≤64:=by
 have h1:x * y≤4 * 4:=Int.mul_le_mul hx.2 hy.2 hy.1 (by decide)
 have h2:x * y * z≤4 * 4 * 4:=Int.mul_le_mul h1 hz.2 hz.1 (by decide)
 omega
theorem crop_facts {a:Pt} {b:Box} (h1:0≤a.x∧a.x≤16384) (h2:0≤a.y∧a.y≤16384) (h3:0≤a.z∧a.z≤16384) (hE:emptyB (meetB (cb a 2) b)=false):newE (meetB (cb a 2) b) 0=0∧1≤volB (meetB (cb a 2) b)∧volB (meetB (cb a 2) b)≤64:=by
 have hv:=atB_pos hE
 have hj:=meet_join hE
 have hm:=emptyB_iff.1 hE
 have hs:=sizeB_full hE
 have hvol:volB (meetB (cb a 2) b)≤64:=by
  unfold volB
  rw [hs]
  rw [hj] at hm ⊢
  simp only [joinB,cb,Pt.sub] at hm ⊢
  refine mul3_le ?_ ?_ ?_ <;> omega
 refine ⟨?_,hv,hvol⟩
 unfold newE
 rw [if_neg,if_neg (by omega)]
 rw [hj] at hm ⊢
 simp only [joinB,cb] at hm ⊢
 simp only [okB,okP,okC,Pal.cell,Bool.and_eq_false_iff,decide_eq_false_iff_not,Bool.and_eq_true,decide_eq_true_eq]
 omega
end
section
open Go.RowKit Go.Sort Go.Maps
open Oct
attribute [local go_sem] Oper.semAt_some
set_option maxRecDepth 100000 in
set_option maxHeartbeats 4000000 in
theorem tcount_any (most:Int) (ts:List Tr) (hG:Good ts) (hlen:ts.length≤4194304) (sb n:Nat) (hn:n≤12) (T:Tr) (hT:T∈ts) (hDp:Dep n T) (c:Int) (w:World) (Far:Nat→Prop) (hS:StoreIs w Far sb most ts) :
 Calls Tryz.prog 23 #[.pointer (some ⟨sb,0,none⟩),(idT ts T:Int),.int .i64 ((n:Int)+2),c] w fun e w'=>e = .returned (.int .i64 (cntS c (leavesT n ⟨0,0,0⟩ T)))∧Below w.heap.size w w':=by
 refine (callsIn_wide (n:=5)).1 ?_
 refine callsIn_of_wp_marks Tryz.func23 rfl trivial ?_ rfl
 simp only [Tryz.ntmps23,List.size_toArray,List.length_cons,List.length_nil,Nat.reduceAdd,Nat.reduceSub,Array.replicate_succ,Array.replicate_zero,List.push_toArray,List.append_toArray,List.nil_append,List.cons_append]
 gi_wp2_with ((try refine ⟨trivial,?_⟩);gi_at_call 25;refine (callsIn_wide.2 (tleaves_any _ _ _ _)).mono ?_;rintro _ _ ⟨rfl,rfl⟩)
 generalize hW0:World.alloc (World.alloc (World.alloc (World.alloc (World.alloc _ _) _) _) _) _=W0
 have hB0:Below w.heap.size w W0:=by rw [←hW0];exact ((((((Below.refl _ _).alloc (Nat.le_refl _) _).alloc (by simp) _).alloc (by simp;omega) _).alloc (by simp;omega) _).alloc (by simp;omega) _).alloc (by simp;omega) _
 have hsz:W0.heap.size=w.heap.size+6:=by rw [←hW0];simp
 have ks:Bk W0 w.heap.size #[.pointer (some ⟨sb,0,none⟩)] 32:=by rw [←hW0];exact blk_old (blk_old (blk_old (blk_old (blk_old (blk_new _ _ _ (by simp))))))
 have kc:Bk W0 (w.heap.size+1) #[c] 3:=by rw [←hW0];exact blk_old (blk_old (blk_old (blk_old (blk_new _ _ _ (by simp)))))
 have kn:Bk W0 (w.heap.size+1+1) #[(0:Int)] 3:=by rw [←hW0];exact blk_old (blk_old (blk_old (blk_new _ _ _ (by simp))))
 have ks2:Bk W0 (w.heap.size+1+1+1) #[.pointer (some ⟨sb,0,none⟩)] 32:=bk2 hW0
 have ki:Bk W0 (w.heap.size+1+1+1+1) #[(idT ts T:Int)] 3:=bk1 hW0
 have kd:Bk W0 (w.heap.size+1+1+1+1+1) #[.int .i64 ((n:Int)+2)] 3:=bk0 hW0
 clear hW0
 have hS0:StoreIs W0 (fun k=>k=w.heap.size+1+1∨W0.heap.size≤k) sb most ts:=(((hS.less (Far:=fun _=>False) (fun k h=>h.elim)).widen (Far':=fun k=>w.heap.size≤k) (fun k hk=>.inr hk)).later hB0).less (fun k hk=>by rcases hk with rfl | hk <;> omega)
 have hlf:=leaf_facts ts hG n n ⟨0,0,0⟩ T (InT.top n) hDp hT
 have hseq:=leaves_stops (fun k=>k=w.heap.size+1+1) W0.heap.size (w.heap.size+1+1+1) (w.heap.size+1+1+1+1+1) (w.heap.size+1+1+1+1) sb n hn most ts hG hlen T hT hDp (5 - 1) W0 ks2 kd ki hS0 (by omega) (by omega) (Nat.le_refl _)
 have hKd:=Bx.mk fun t ht W (h:StoreIs W (fun k=>k=w.heap.size+1+1∨W0.heap.size≤k) sb most ts)=>kindV_any _ sb most ts t ht hlen W h
 have hCl:=Bx.mk fun t ht W (h:StoreIs W (fun k=>k=w.heap.size+1+1∨W0.heap.size≤k) sb most ts)=>cells_any W _ sb most ts t ht hG (by omega) h
 have hgb:=Bx.mk hG.bytes
 clear hT hDp hlen hG hS ks2 kd ki
 have Hhn:=Bx.mk hn
 have HS0:=Bx.mk hS0
 have Hlf:=Bx.mk hlf
 have HB0:=Bx.mk hB0
 clear hn hS0 hlf hB0
 have kn0:Bk W0 (w.heap.size+1+1) #[.int .i64 (cntS c [])] 3:=by rw [show cntS c []=0 from by simp [cntS,wrap64]];exact kn
 refine wpIn_rangeFunc_ownH rfl (by decide) (gf:=83) (lb:=#[.pointer (some ⟨w.heap.size+1+1+1,0,none⟩),.pointer (some ⟨w.heap.size+1+1+1+1+1,0,none⟩),.pointer (some ⟨w.heap.size+1+1+1+1,0,none⟩)]) rfl trivial (enters_of Tryz.func83 (by kernel_rfl) rfl)
  hseq KpE.trans (fun W l o o' hl h hc _=>KpE.putObj W l o o' hl h hc) (Below.refl _ _) (fun _=>rfl)
  (fun (pre:List { x // x∈leavesT n ⟨0,0,0⟩ T }) W=>Bk W (w.heap.size+1+1) #[.int .i64 (cntS c (pre.map (·.1)))] 3∧KpE (fun k=>k=w.heap.size+1+1) W0.heap.size W0 W)
  (fun _ _ _=>False)
  (OwnFrom.and (ownFrom_bk _ (fun (pre:List { x // x∈leavesT n ⟨0,0,0⟩ T })=>#[.int .i64 (cntS c (pre.map (·.1)))]) _) ownFrom_kpE)
  (fun _ _ _ _ _ hs _ _=>hs)
  ⟨kn0,KpE.refl _ _ _⟩
  (fun x a' W => ∃ xb,W0.heap.size≤xb∧Bk W xb #[.int .i64 x.1.1.x,.int .i64 x.1.1.y,.int .i64 x.1.1.z,.int .i64 ((x.1.2.1:Int)+2)] 39∧a'={ tmps:=#[.pointer (some ⟨sb,0,none⟩),.int .i64 (idT ts T:Int),.int .i64 ((n:Int)+2),.int .i64 c,.pointer (some ⟨w.heap.size,0,none⟩),undef,undef,.pointer (some ⟨w.heap.size+1,0,none⟩),.int .i64 0,.pointer (some ⟨w.heap.size+1+1,0,none⟩),.pointer (some ⟨xb,0,none⟩),.int .i64 (idT ts x.1.2.2:Int),undef,undef,undef,.pointer (some ⟨sb,0,none⟩),.int .i64 (idT ts T:Int),.int .i64 ((n:Int)+2),.func (.func 83) #[] #[.pointer (some ⟨w.heap.size+1+1+1,0,none⟩),.pointer (some ⟨w.heap.size+1+1+1+1+1,0,none⟩),.pointer (some ⟨w.heap.size+1+1+1+1,0,none⟩)],cubeV x.1.1.x x.1.1.y x.1.1.z ((x.1.2.1:Int)+2),.int .i64 (idT ts x.1.2.2:Int),undef,undef,undef,undef,undef,undef,undef,undef,undef,undef,undef,undef,undef,undef,undef,undef,undef,undef,undef,undef,undef,undef,undef,undef],defers:=[] })
  (fun x a'=>fun _ X Y row hs hg hr=>by obtain ⟨xb,h1,h2,h3⟩:=hs;exact ⟨xb,h1,ownFrom_bk xb (fun (_:Unit)=>#[.int .i64 x.1.1.x,.int .i64 x.1.1.y,.int .i64 x.1.1.z,.int .i64 ((x.1.2.1:Int)+2)]) _ () X Y row h2 hg hr,h3⟩)
  ?assign ?body ?done ?stop
 case assign =>
  rintro l pre x W K ⟨kn1,hk1⟩ hK
  have hbA:Below W.heap.size W (W.alloc (.cells #[.int .i64 x.1.1.x,.int .i64 x.1.1.y,.int .i64 x.1.1.z,.int .i64 ((x.1.2.1:Int)+2)] 39)):=(Below.refl _ _).alloc (Nat.le_refl _) _
  have HK:=hK _ _ (keepsFrom_below hbA) (KpE.below hbA) ⟨kn1.later hbA,hk1.trans (KpE.below hbA)⟩ ⟨W.heap.size,hk1.size,blk_new _ _ _ (by simp),rfl⟩
  replace HK:=Bx.mk HK
  clear hK
  gi_wp2
  exact HK.out
 case body =>
  rintro l pre ⟨⟨a,lv,t⟩,hx⟩ a' W hl hr ⟨kn1,hk1⟩ ⟨xb,hxb,kx,rfl⟩ hlt
  obtain ⟨ht,hin,htk⟩:=Hlf.out _ hx
  simp only [] at ht hin htk kx ⊢
  have hle:=hin.le
  have hn12:=Hhn.out
  have HSW:=Bx.mk (hk1.store HS0.out)
  have HKd:=Bx.mk (hKd.out t ht W HSW.out)
  have HCl:=Bx.mk (hCl.out t ht W HSW.out)
  have s0:=(hk1.bk ks (show ¬(w.heap.size=w.heap.size+1+1) by omega)).cell 0 rfl
  have kcW:=Bx.mk (hk1.bk kc (show ¬(w.heap.size+1=w.heap.size+1+1) by omega))
  have HK1:=Bx.mk hk1
  have HX:=Bx.mk kx
  have HKN:=Bx.mk kn1
  have Hlt:=hl
  have Hsum:Bx (cntS c ((pre++[(⟨(a,lv,t),hx⟩:{ x // x∈leavesT n ⟨0,0,0⟩ T })]).map (·.1))=wrap64 (((((pre.map (·.1)).map (cntL c)).sum:Nat):Int)+((cntL c (a,lv,t):Nat):Int))):=⟨by rw [List.map_append];exact cntS_snoc c _ _⟩
  generalize hP:pre++[(⟨(a,lv,t),hx⟩:{ x // x∈leavesT n ⟨0,0,0⟩ T })]=P at *
  generalize hSS:((((pre.map (·.1)).map (cntL c)).sum:Nat):Int)=SS at *
  have Hhyp:Bx (cntS c (pre.map (·.1))=wrap64 SS):=⟨by unfold cntS;rw [hSS]⟩
  have hkd1:0≤3 * ((lv:Int)+2):=by omega
  have hkd2:3 * ((lv:Int)+2)≤64:=by omega
  have hbt:=hgb.out t ht
  have hxsz:xb<W.heap.size:=kx.lt
  clear hKd hCl hSS hP hx ht
  rcases htk with ⟨d,rfl⟩ | ⟨rfl,ys,rfl⟩
  · have t0:(kindV (Tr.uni d) == 1)=true:=rfl
    have hw3:IntKind.i64.wrap (3 * ((lv:Int)+2))=3 * ((lv:Int)+2):=IntWalk.i64_in _ (by omega)
    have hp8:(8:Nat) ^ (lv+2)≤4398046511104:=Nat.le_trans (Nat.pow_le_pow_right (by decide) (show lv+2≤14 by omega)) (by decide)
    have he:(1:Int) * 2 ^ (3 * ((lv:Int)+2)).toNat=((8 ^ (lv+2):Nat):Int):=by
     have h8:(8:Nat) ^ (lv+2)=2 ^ (3 * (lv+2)):=by rw [Nat.pow_mul]
     rw [show (3 * ((lv:Int)+2)).toNat=3 * (lv+2) by omega,Int.one_mul,h8,Int.natCast_pow]
     rfl
    have hw8:IntKind.i64.wrap ((8 ^ (lv+2):Nat):Int)=((8 ^ (lv+2):Nat):Int):=(fun (q:Nat) (hq:q≤4398046511104)=>IntWalk.i64_in (q:Int) (by omega)) _ hp8
    have hyl:([d]:List Int).length≤64:=by simp
    have hyne:0<([d]:List Int).length:=by simp
    have hcnt:Bx (((cntL c (a,lv,.uni d):Nat):Int)=((([d]:List Int).count c:Nat):Int) * ((8 ^ (lv+2):Nat):Int)):=⟨by
     unfold cntL
     rw [List.count_singleton]
     by_cases h:d=c
     · simp [h]
     · simp [h]⟩
    have k3:=HX.out.cell 3 rfl
    have hou:outT (Tr.uni d)=[d]:=rfl
    rw [hou] at HCl
    generalize hE8:((8 ^ (lv+2):Nat):Int)=e at *
    generalize ([d]:List Int)=ys at *
    generalize (idT ts (Tr.uni d):Int)=iX at *
    generalize kindV (Tr.uni d)=kT at *
    clear hp8 hE8 hou
    gi_wp2_with (first
     | ((try refine ⟨trivial,?_⟩);gi_at_call 39;refine (CallsIn.inRound l (callsIn_wide.2 HKd.out)).mono ?_;rintro _ _ ⟨rfl,rfl⟩)
     | ((try refine ⟨trivial,?_⟩);gi_at_call 41;refine (CallsIn.inRound l (callsIn_wide.2 HCl.out)).mono ?_;rintro _ W2 ⟨v,rfl,hown,hb2⟩;obtain ⟨va,vc,rfl⟩:=row_form hown))
    have hnbW:w.heap.size+1+1<W.heap.size:=by have:=HK1.out.size;omega
    obtain ⟨b0,off0,rfl,-⟩:=hown.sl 0 _ (List.getElem?_eq_getElem hyne)
    have HI:Bx (CSt (fun k=>k=w.heap.size+1+1) W0.heap.size (w.heap.size+1+1) W.heap.size c SS e ys (.slice (some ⟨b0,off0,none⟩) ys.length vc) W 0 W2):=⟨⟨Rnd.below hb2,by
     have h:=HKN.out.later hb2
     rw [Hhyp.out] at h
     simpa using h,hown⟩⟩
    clear hown hb2 HKd HCl s0 HKN HSW
    gi_loopw [33] (fun v33 wr => ∃ j:Nat,j≤ys.length∧v33 = .int .i64 j∧Bx (CSt (fun k=>k=w.heap.size+1+1) W0.heap.size (w.heap.size+1+1) W.heap.size c SS e ys (.slice (some ⟨b0,off0,none⟩) ys.length vc) W j wr)) (fun i _=>ys.length - (intOf i).toNat)
    case atStart=>exact ⟨0,Nat.zero_le _,rfl,HI⟩
    case round =>
     clear HI
     obtain ⟨j,hj,rfl,HI⟩:=hrel
     by_cases hltj:j<ys.length
     · obtain ⟨x,hx⟩ : ∃ x,ys[j]? = some x:=⟨_,List.getElem?_eq_getElem hltj⟩
       have hcx:=own_cell HI.out.own hx
       have c1:=(HI.out.rnd.kp.bk kcW.out (show ¬(w.heap.size+1=w.heap.size+1+1) by omega)).cell 0 rfl
       have n1:=HI.out.kn.cell 0 rfl
       have n2:=HI.out.kn.frozen 0
       have t1:decide ((j:Int)<(ys.length:Int))=true:=by simp;omega
       have b1:(0:Int)≤(j:Int):=by omega
       have b2:(j:Int)<(ys.length:Int):=by omega
       by_cases hxc:x=c
       · have t2:(x == c)=true:=by simp [hxc]
         have HJ:=Bx.mk (HI.out.hit (e1:=e) rfl rfl hnbW (hxc ▸ hx))
         clear hx hxc
         gi_wp2
         go_roundw
         case rel=>exact ⟨j+1,by omega,by go_num,HJ⟩
         case measure=>simp [intOf];omega
       · have t2:(x == c)=false:=by simp [hxc]
         have HJ:=Bx.mk (HI.out.skip hx hxc)
         clear hx hxc
         gi_wp2
         go_roundw
         case rel=>exact ⟨j+1,by omega,by go_num,HJ⟩
         case measure=>simp [intOf];omega
     · obtain rfl:j=ys.length:=by omega
       have t1:decide ((ys.length:Int)<(ys.length:Int))=false:=by simp
       gi_wp2
       refine ⟨HI.out.rnd.kf,HI.out.rnd.kp,?_,HK1.out.trans HI.out.rnd.kp⟩
       have h:=HI.out.kn
       rw [List.take_length,←hcnt.out] at h
       show Bk _ _ #[.int .i64 (cntS c _)] _
       rw [Hsum.out]
       exact h
  · have t0:(kindV (Tr.brick ys) == 1)=false:=rfl
    have hyl:ys.length≤64:=by have:=(hbt.bricks _ rfl).1;omega
    have hyne:0<ys.length:=by have:=(hbt.bricks _ rfl).1;omega
    have hcnt:Bx (((cntL c (a,0,.brick ys):Nat):Int)=((ys.count c:Nat):Int) * 1):=⟨by simp [cntL]⟩
    have hou:outT (Tr.brick ys)=ys:=rfl
    rw [hou] at HCl
    generalize (idT ts (Tr.brick ys):Int)=iX at *
    generalize kindV (Tr.brick ys)=kT at *
    obtain ⟨e,he1⟩ : ∃ e:Int,e=1:=⟨1,rfl⟩
    rw [←he1] at hcnt
    have HE1:=Bx.mk he1.symm
    clear hou hbt he1
    gi_wp2_with (first
     | ((try refine ⟨trivial,?_⟩);gi_at_call 39;refine (CallsIn.inRound l (callsIn_wide.2 HKd.out)).mono ?_;rintro _ _ ⟨rfl,rfl⟩)
     | ((try refine ⟨trivial,?_⟩);gi_at_call 41;refine (CallsIn.inRound l (callsIn_wide.2 HCl.out)).mono ?_;rintro _ W2 ⟨v,rfl,hown,hb2⟩;obtain ⟨va,vc,rfl⟩:=row_form hown))
    have hnbW:w.heap.size+1+1<W.heap.size:=by have:=HK1.out.size;omega
    obtain ⟨b0,off0,rfl,-⟩:=hown.sl 0 _ (List.getElem?_eq_getElem hyne)
    have HI:Bx (CSt (fun k=>k=w.heap.size+1+1) W0.heap.size (w.heap.size+1+1) W.heap.size c SS e ys (.slice (some ⟨b0,off0,none⟩) ys.length vc) W 0 W2):=⟨⟨Rnd.below hb2,by
     have h:=HKN.out.later hb2
     rw [Hhyp.out] at h
     simpa using h,hown⟩⟩
    clear hown hb2 HKd HCl s0 HKN HSW
    gi_loopw [33] (fun v33 wr => ∃ j:Nat,j≤ys.length∧v33 = .int .i64 j∧Bx (CSt (fun k=>k=w.heap.size+1+1) W0.heap.size (w.heap.size+1+1) W.heap.size c SS e ys (.slice (some ⟨b0,off0,none⟩) ys.length vc) W j wr)) (fun i _=>ys.length - (intOf i).toNat)
    case atStart=>exact ⟨0,Nat.zero_le _,rfl,HI⟩
    case round =>
     clear HI
     obtain ⟨j,hj,rfl,HI⟩:=hrel
     by_cases hltj:j<ys.length
     · obtain ⟨x,hx⟩ : ∃ x,ys[j]? = some x:=⟨_,List.getElem?_eq_getElem hltj⟩
       have hcx:=own_cell HI.out.own hx
       have c1:=(HI.out.rnd.kp.bk kcW.out (show ¬(w.heap.size+1=w.heap.size+1+1) by omega)).cell 0 rfl
       have n1:=HI.out.kn.cell 0 rfl
       have n2:=HI.out.kn.frozen 0
       have t1:decide ((j:Int)<(ys.length:Int))=true:=by simp;omega
       have b1:(0:Int)≤(j:Int):=by omega
       have b2:(j:Int)<(ys.length:Int):=by omega
       by_cases hxc:x=c
       · have t2:(x == c)=true:=by simp [hxc]
         have HJ:=Bx.mk (HI.out.hit (e1:=1) HE1.out rfl hnbW (hxc ▸ hx))
         clear hx hxc
         gi_wp2
         go_roundw
         case rel=>exact ⟨j+1,by omega,by go_num,HJ⟩
         case measure=>simp [intOf];omega
       · have t2:(x == c)=false:=by simp [hxc]
         have HJ:=Bx.mk (HI.out.skip hx hxc)
         clear hx hxc
         gi_wp2
         go_roundw
         case rel=>exact ⟨j+1,by omega,by go_num,HJ⟩
         case measure=>simp [intOf];omega
     · obtain rfl:j=ys.length:=by omega
       have t1:decide ((ys.length:Int)<(ys.length:Int))=false:=by simp
       gi_wp2
       refine ⟨HI.out.rnd.kf,HI.out.rnd.kp,?_,HK1.out.trans HI.out.rnd.kp⟩
       have h:=HI.out.kn
       rw [List.take_length,←hcnt.out] at h
       show Bk _ _ #[.int .i64 (cntS c _)] _
       rw [Hsum.out]
       exact h
 case done =>
  rintro D ys W hD hxs ⟨kn1,hk1⟩ hK
  have c1:=kn1.cell 0 rfl
  rw [hxs] at c1
  gi_wp2
  refine ⟨by simp,.inl ⟨_,_,rfl,run_takeDeferred hK,?_⟩⟩
  refine ⟨_,results_tmp rfl _ _ _,rfl,?_⟩
  have hkf:=hk1.trans (KpE.putObj W D _ (.deferred none) hD hK rfl)
  exact HB0.out.trans ⟨hkf.os,hkf.tape,hkf.output,hkf.size,fun k hk=>by
   have hlt:k<W0.heap.size:=by omega
   have e:W0.heap[k]? = some W0.heap[k]:=Array.getElem?_eq_getElem hlt
   rw [e];exact hkf.blk k _ e (show ¬(k=w.heap.size+1+1) by omega) (.inl hlt)⟩
 case stop =>
  rintro D cc pre W _ _ h _
  exact h.elim
end
end Go.Proofs.YtfcbajmjaifjlaaGreat
