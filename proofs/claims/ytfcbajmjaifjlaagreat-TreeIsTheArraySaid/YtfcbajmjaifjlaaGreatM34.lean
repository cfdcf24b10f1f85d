/- Lv1, RlN, Hs1, Hs0, Lv2, Lv3: joined by program, for one claim. -/
import Derived.RangeFuncNested
import Derived.RangeFuncBound
import Derived.RangeFuncCalls
import Derived.RangeFuncLeaves
import Derived.Shelf.Abstract
import Derived.Shelf.RegionOpen
import Derived.WalkKit
import Derived.OwnWalkIn
import Derived.TacticsInMore
import Derived.LoopNIn
import Derived.LoopIn
import Derived.Test.YtfcbajmjaifjlaaGreatM33
import Derived.Test.YtfcbajmjaifjlaaGreatM23
import Derived.OrdersIn
import Derived.Test.YtfcbajmjaifjlaaGreatM32
import Derived.Test.YtfcbajmjaifjlaaGreatM16
set_option linter.unusedVariables false
set_option linter.unusedSimpArgs false
namespace Go.Proofs.YtfcbajmjaifjlaaGreat
section
open Go.RowKit Go.Sort Go.Maps
open Oct
attribute [local go_sem] Oper.semAt_some
theorem room_w (k:Nat):Fence.wide.room k:=fun d h=>by cases h
theorem RoundIn.anyDepth' {m m':Nat} {P:Program} {l:Nat} {f:FuncId} {tmps:Array Value} {assign body:Code} {w:World} {R:Ending→World→Prop}
 (h:RoundIn Fence.wide m P l f tmps assign body w R):RoundIn Fence.wide m' P l f tmps assign body w R:=⟨h.1,fun c cs _=>h.2 c cs (room_w _)⟩
theorem YieldAt.anyDepth' {m:Nat} (m':Nat) {P:Program} {l:Nat} {args:Array Value} {W:World} {R:Ending→World→Prop} (h:YieldAt Fence.wide m P l args W R):YieldAt Fence.wide m' P l args W R:=by
 obtain ⟨fn,tmps,assign,body,hy,hR⟩:=h
 exact ⟨fn,tmps,assign,body,hy,RoundIn.anyDepth' hR⟩
set_option maxRecDepth 100000 in
set_option maxHeartbeats 1000000 in
theorem lv_leaf (l m ps py pv sb:Nat) (x y z lv id kT:Int) (W:World) (R:Ending→World→Prop) (hR : ∀ e W',R e W' → ∃ b:Bool,e = .returned (.bool b))
 (ks:Bk W ps #[.pointer (some ⟨sb,0,none⟩)] 32) (ky:Bk W py #[.func (.yield l) #[] #[]] 127) (hk:kT ≠ 3)
 (Hk : ∀ W',Below W.heap.size W W'→Calls Tryz.prog 39 #[.pointer (some ⟨sb,0,none⟩),id] W' fun e w'=>e = .returned (.int .i64 kT)∧W'=w')
 (hY : ∀ W',Below W.heap.size W W'→YieldAt Fence.wide m Tryz.prog l #[cubeV x y z lv,id] W' R) :
 Calls Tryz.prog 84 #[cubeV x y z lv,id,.pointer (some ⟨ps,0,none⟩),.pointer (some ⟨py,0,none⟩),.pointer (some ⟨pv,0,none⟩)] W R:=by
 have hb:Below W.heap.size W (World.alloc W (.cells #[x,y,z,lv] 39)):=(Below.refl _ _).alloc (Nat.le_refl _) _
 have HK:=Bx.mk (Hk _ hb)
 have s0:=(ks.later hb).cell 0 rfl
 have y0:=(ky.later hb).cell 0 rfl
 have t0:(kT == 3)=false:=by simpa using hk
 obtain ⟨fn,tmps,assign,body,hy,hYr⟩:=hY _ hb
 have HY:=Bx.mk hYr
 have HR:=Bx.mk hR
 clear ks ky Hk hY hYr hb hk hR
 refine (callsIn_wide (n:=3)).1 ?_
 refine callsIn_of_wp Tryz.func84 rfl trivial ?_ rfl
 simp only [Tryz.ntmps84,List.size_toArray,List.length_cons,List.length_nil,Nat.reduceAdd,Nat.reduceSub,Array.replicate_succ,Array.replicate_zero,List.push_toArray,List.append_toArray,List.nil_append,List.cons_append]
 gi_wp2_with (first
  | ((try refine ⟨trivial,?_⟩);gi_at_call 39;refine (callsIn_wide.2 HK.out).mono ?_;rintro _ _ ⟨rfl,rfl⟩)
  | (refine (RoundIn.anyDepth' HY.out).mono ?_;intro e W' hr;obtain ⟨b,rfl⟩:=HR.out e W' hr;have HR':=Bx.mk hr;clear hr))
 exact HR'.out
end
section
open Go.Sort Go.RowKit
theorem upon_in {P:Program} {o:Oper} {a:Act} {next:Act→World→Prop} {Q:Exit→Act→World→Prop} (l n:Nat) {r:Result Next} (h:o.upon P a next Q r):o.uponIn (Fence.wide.inRound l) n P a next Q r:=by
 cases r with
 | ok x w' =>
   cases x with
   | value v=>exact h
   | skip=>exact h
   | defer d=>exact h
   | enter f args=>exact ⟨fun e=>(by cases e),(callsIn_wide.2 h).inRound l⟩
   | row row args=>exact ⟨fun e=>(by cases e),fun c cs _=>by
    obtain ⟨v,w2,r,s⟩:=h c cs
    exact ⟨v,w2,r,stepsIn_wide.2 s⟩⟩
   | round l f tmps assign body=>exact h.elim
   | _=>exact h.elim
 | halt x w' =>
   cases x with
   | panic v=>exact h
   | _=>exact h.elim
section
variable {P:Program} {Q:Exit→Act→World→Prop}
theorem wpOp_in (l n:Nat) {ops:Array Oper} (hnd : ∀ (i:Nat) (o:Oper) (c:Call),ops[i]? = some o→o.op ≠ .defer c) (hLo : ¬LetsOut Q) {i:Nat} {K:Act→World→Prop} {a:Act} {w:World} (h:wpOp P ops Q i K a w):wpOpIn (Fence.wide.inRound l) n P ops Q i K a w:=by
 unfold wpOp at h
 unfold wpOpIn
 split
 · rename_i ho;simpa only [ho] using h
 · rename_i o ho
   simp only [ho] at h
   split
   · rename_i hw
     rw [if_pos hw] at h
     rcases h with h | h
     · refine ⟨fun f _=>trivial,?_⟩
       rw [Fence.inRound_round,Oper.semAt_some l _ _ (fun c=>hnd i o c ho)]
       exact upon_in l n h
     · exact absurd h.2 hLo
   · rename_i hw
     rw [if_neg hw] at h
     exact ⟨fun f _=>trivial,h⟩
theorem wpAny_in (l n:Nat) {ops:Array Oper} {md:Region.Mode} (hnd : ∀ (i:Nat) (o:Oper) (c:Call),ops[i]? = some o→o.op ≠ .defer c) (hLo : ¬LetsOut Q) : ∀ (fuel:Nat) (listed:Array Bool) (a:Act) (w:World),wpAny P md ops Q fuel listed a w→wpAnyIn (Fence.wide.inRound l) n P md ops Q fuel listed a w
 | 0,_,_,_,h=>h
 | fuel+1,listed,a,w,h=>⟨h.1,fun i hi=>wpOpIn_mono (fun a' w' h'=>wpAny_in l n hnd hLo fuel _ a' w' h') (wpOp_in l n hnd hLo (h.2 i hi))⟩
def noDefer (l:List Oper):Bool:=l.all fun o=>match o.op with | .defer _=>false | _=>true
theorem noDefer_spec {l:List Oper} (h:noDefer l=true) (i:Nat) (o:Oper) (c:Call) (ho:l.toArray[i]? = some o):o.op ≠ .defer c:=by
 intro e
 have hm:o∈l:=List.mem_of_getElem? (by simpa using ho)
 have:=List.all_eq_true.1 h o hm
 rw [e] at this
 cases this
theorem wpIn_region_relT {l:List Oper} {W:World} {a:Act} {id:Nat} (lo k:Nat) (n:Nat) (R:Nat→Value→World→Prop) (hm:P.follows .mixedOrders=true) (hB:headRT l n=true) (hnd:noDefer l=true) (hLo : ¬LetsOut Q) (m:Nat) (hdm:dstB l m=true) (ham:a.tmps.size=m)
 (hf : ∀ i,i<n→Firm (R i))
 (hop : ∀ i o,i<n→l[i]? = some o → ∀ (ρ:Operand→Value) w,Below W.heap.size W w→(∀ v,ρ (.const v)=v)→(∀ g,ρ (.global g) = .pointer (some ⟨g,0,none⟩))→(∀ f,ρ (.func f) = .func (.func f) #[] #[]) →
  (∀ d,.tmp d∈o.op.operands→Known l n R a d (ρ (.tmp d)) w)→relUpon P w (R i) ((execOp ρ o).run P w))
 (h : ∀ (vs:List Value) w',vs.length=n→Below W.heap.size W w'→(∀ i v,vs[i]? = some v→R i v w')→wpList P l.toArray Q (l.drop n) (puts (((l.take n).map (·.dst)).zip vs) a) w'):(Code.region id l.toArray true).wpIn (Fence.wide.inRound lo) k P Q a W :=
 wpIn_region_any hm (wpAny_in lo k (noDefer_spec hnd) hLo _ _ _ _ (any_relT n R hB m hdm ham hf hop h))
end
end
section
open Go.RowKit Go.Sort Go.Maps
open Oct
theorem any_stop {p:Int→Bool} {xs:List Int} {k:Nat} {x:Int} (hx:xs[k]? = some x) (h:p x=true):xs.any p=true:=List.any_eq_true.2 ⟨x,List.mem_of_getElem? hx,h⟩
theorem any_step {p:Int→Bool} {xs:List Int} {k:Nat} {x:Int} (hx:xs[k]? = some x) (hall:(xs.take k).any p=false) (h:p x=false):(xs.take (k+1)).any p=false:=by
 have hj:=List.getElem?_eq_some_iff.1 hx
 rw [List.take_succ_eq_append_getElem hj.1,hj.2,List.any_append,hall]
 simp [h]
theorem any_end {p:Int→Bool} {xs:List Int} {n:Nat} (hn:Bx (xs.length=n)) (h:(xs.take n).any p=false):xs.any p=false:=by
 rwa [List.take_of_length_le (by have:=hn.out;omega)] at h
set_option maxHeartbeats 400000 in
theorem idx_any (q:Int) (a:Option Addr) (cap:Nat) (xs:List Int) (w:World) (hl:xs.length≤1000000000) (h:Sl w .i64 a xs) :
 Calls Tryz.prog 138 #[.slice a xs.length cap,q] w fun e w'=>(∃ r:Int,e = .returned (.int .i64 r)∧(decide (0≤r)=xs.any (q == ·)))∧w=w':=by
 generalize hn:xs.length=n at hl
 have Hn:=Bx.mk hn;clear hn
 go_enter Tryz.func138,Tryz.ntmps138
 go_wp2
 go_loop [8] (fun i => ∃ k:Nat,k≤n∧i = .int .i64 k∧(xs.take k).any (q == ·)=false) (fun i=>n - (intOf i).toNat)
 case atStart=>exact ⟨0,Nat.zero_le _,rfl,by simp⟩
 case round =>
  obtain ⟨k,hk,rfl,hall⟩:=hrel
  have Hall:=Bx.mk hall;clear hall
  by_cases hlt:k<n
  · obtain ⟨x,hx⟩:=at_lt Hn hlt
    obtain ⟨b,off,rfl,hc⟩:=h k x hx
    have Hx:=Bx.mk hx;clear h hx
    cases hcx:(q == ·) x with
    | true =>
      have hf:=Bx.mk (any_stop (p:=(q == ·)) Hx.out hcx)
      have t1:(q == x)=true:=hcx
      go_wp2_with fail
      go_ret
      exact ⟨⟨_,rfl,by rw [hf.out];simp⟩,rfl⟩
    | false =>
      have hf:=Bx.mk (any_step (p:=(q == ·)) Hx.out Hall.out hcx)
      have t1:(q == x)=false:=hcx
      go_wp2_with fail
      go_round
      case rel=>exact ⟨k+1,by omega,by go_num,hf.out⟩
      case measure=>simp [intOf];omega
  · have hkn:k=n:=by omega
    have hf:=Bx.mk (any_end (p:=(q == ·)) Hn (hkn ▸ Hall.out))
    clear hkn
    go_wp2
    go_ret
    exact ⟨⟨_,rfl,by rw [hf.out];simp⟩,rfl⟩
theorem contains_int (q:Int) (a:Option Addr) (cap:Nat) (xs:List Int) (w:World) (hl:xs.length≤1000000000) (h:Sl w .i64 a xs) :
 Calls Tryz.prog 78 #[.slice a xs.length cap,q] w fun e w'=>e = .returned (.bool (xs.any (q == ·)))∧w=w':=by
 go_enter Tryz.func78,Tryz.ntmps78
 go_wp2_with (go_at_call 138;refine (idx_any q a cap xs _ hl h).mono ?_;rintro e w' ⟨⟨r,rfl,hr⟩,rfl⟩;have Hr:=Bx.mk hr;clear hr)
 go_ret
 exact ⟨ret_bool Hr.out,rfl⟩
theorem has1_any (pc:Nat) (a:Option Addr) (cap:Nat) (cs:List Int) (x:Int) (w:World) (hl:cs.length≤1000000000) (h:Sl w .i64 a cs) (kc:Bk w pc #[.slice a cs.length cap] 26) :
 Calls Tryz.prog 77 #[x,.pointer (some ⟨pc,0,none⟩)] w fun e w'=>e = .returned (.bool (cs.any (x == ·)))∧w=w':=by
 have c0:=kc.cell 0 rfl
 have H:=Bx.mk (contains_int x a cap cs w hl h)
 clear kc hl h
 generalize cs.length=n at *
 go_enter Tryz.func77,Tryz.ntmps77
 go_wp2_with ((with_reducible refine H.out.mono ?_);rintro _ _ ⟨rfl,rfl⟩)
 go_ret
 exact ⟨rfl,rfl⟩
set_option maxHeartbeats 400000 in
theorem idxf_any (pc:Nat) (p:Int→Bool) (a:Option Addr) (cap:Nat) (xs:List Int) (w:World) (hl:xs.length≤1000000000) (h:Sl w .i64 a xs) (hcl : ∀ x:Int,Calls Tryz.prog 77 #[x,.pointer (some ⟨pc,0,none⟩)] w fun e w'=>e = .returned (.bool (p x))∧w=w') :
 Calls Tryz.prog 137 #[.slice a xs.length cap,.func (.func 77) #[] #[.pointer (some ⟨pc,0,none⟩)]] w fun e w'=>(∃ r:Int,e = .returned (.int .i64 r)∧(decide (0≤r)=xs.any p))∧w=w':=by
 generalize hn:xs.length=n at hl
 have Hn:=Bx.mk hn;clear hn
 have Hcl:=Bx.mk hcl
 clear hcl
 go_enter Tryz.func137,Tryz.ntmps137
 go_wp2
 go_loop [8] (fun i => ∃ k:Nat,k≤n∧i = .int .i64 k∧(xs.take k).any p=false) (fun i=>n - (intOf i).toNat)
 case atStart=>exact ⟨0,Nat.zero_le _,rfl,by simp⟩
 case round =>
  obtain ⟨k,hk,rfl,hall⟩:=hrel
  have Hall:=Bx.mk hall;clear hall
  by_cases hlt:k<n
  · obtain ⟨x,hx⟩:=at_lt Hn hlt
    obtain ⟨b,off,rfl,hc⟩:=h k x hx
    have Hx:=Bx.mk hx;clear h hx
    cases hcx:p x with
    | true =>
      have hf:=Bx.mk (any_stop (p:=p) Hx.out hcx)
      have Hcl2:=Bx.mk (Hcl.out x);rw [hcx] at Hcl2
      go_wp2_with ((with_reducible refine Hcl2.out.mono ?_);rintro _ _ ⟨rfl,rfl⟩)
      go_ret
      exact ⟨⟨_,rfl,by rw [hf.out];simp⟩,rfl⟩
    | false =>
      have hf:=Bx.mk (any_step (p:=p) Hx.out Hall.out hcx)
      have Hcl2:=Bx.mk (Hcl.out x);rw [hcx] at Hcl2
      go_wp2_with ((with_reducible refine Hcl2.out.mono ?_);rintro _ _ ⟨rfl,rfl⟩)
      go_round
      case rel=>exact ⟨k+1,by omega,by go_num,hf.out⟩
      case measure=>simp [intOf];omega
  · have hkn:k=n:=by omega
    have hf:=Bx.mk (any_end (p:=p) Hn (hkn ▸ Hall.out))
    clear hkn
    go_wp2
    go_ret
    exact ⟨⟨_,rfl,by rw [hf.out];simp⟩,rfl⟩
theorem containsf_any (pc:Nat) (p:Int→Bool) (a:Option Addr) (cap:Nat) (xs:List Int) (w:World) (hl:xs.length≤1000000000) (h:Sl w .i64 a xs) (hcl : ∀ x:Int,Calls Tryz.prog 77 #[x,.pointer (some ⟨pc,0,none⟩)] w fun e w'=>e = .returned (.bool (p x))∧w=w') :
 Calls Tryz.prog 76 #[.slice a xs.length cap,.func (.func 77) #[] #[.pointer (some ⟨pc,0,none⟩)]] w fun e w'=>e = .returned (.bool (xs.any p))∧w=w':=by
 have H:=Bx.mk (idxf_any pc p a cap xs w hl h hcl)
 clear hl h hcl
 go_enter Tryz.func76,Tryz.ntmps76
 go_wp2_with (go_at_call 137;refine H.out.mono ?_;rintro e w' ⟨⟨r,rfl,hr⟩,rfl⟩;have Hr:=Bx.mk hr;clear hr)
 go_ret
 exact ⟨ret_bool Hr.out,rfl⟩
end
section
open Go.RowKit Go.Sort Go.Maps
open Oct
theorem own_cap {w:World} {B:Nat} {e:TypeId} {k:IntKind} {a:Option Addr} {n c:Nat} {xs:List Int} (h:Own w B e k (.slice a n c) xs):xs.length≤c:=by
 rcases h.2 with ⟨e1,hn⟩ | ⟨g,cap,cur,e1,hb,hg,hnc,hcm,hcs,ht⟩
 · omega
 · injection e1 with h1 h2 h3
   omega
theorem own_ne_bk {w:World} {B:Nat} {e t:TypeId} {k:IntKind} {v:Value} {xs:List Int} {g:Nat} {cs:Array Value} (h:Own w B e k v xs) (hb:Bk w g cs t) (hne:e ≠ t):v.ownBlock ≠ some g:=by
 rcases h.2 with ⟨rfl,hn⟩ | ⟨g2,cap,cur,rfl,hb2,hg,hnc,hcm,hcs,ht⟩
 · simp [Value.ownBlock]
 · intro h1
   have h2:g2=g:=by simpa [Value.ownBlock] using h1
   subst h2
   have h3:=hg.symm.trans hb
   injection h3 with h3
   injection h3 with _ h4
   exact hne h4
theorem mul3_le {x y z:Int} (hx:0≤x∧x≤4) (hy:0≤y∧y≤4) (hz:0≤z∧z≤4):x * y * z≤64:=by
 have h1:x * y≤4 * 4:=Int.mul_le_mul hx.2 hy.2 hy.1 (by decide)
 have h2:x * y * z≤4 * 4 * 4:=Int.mul_le_mul h1 hz.2 hz.1 (by decide)
 omega
theorem crop_facts {a:Pt} {b:Box} (h1:0≤a.x∧a.x≤16384) (h2:0≤a.y∧a.y≤16384) (h3:0≤a.z∧a.z≤16384) (hE:emptyB (meetB (cb a 2) b)=false):newE (meetB (cb a 2) b) 0=0∧1≤volB (meetB (cb a 2) b)∧volB (meetB (cb a 2) b)≤64:=by
 have hv:=atB_pos hE
 have hj:=meet_join hE
 have hm:=emptyB_iff.1 hE
 have hs:=sizeB_full hE
 have hvol:volB (meetB (cb a 2) b)≤64:=by
  unfold volB
  rw [hs]
  rw [hj] at hm ⊢
  simp only [joinB,cb,Pt.sub] at hm ⊢
  refine mul3_le ?_ ?_ ?_ <;> omega
 refine ⟨?_,hv,hvol⟩
 unfold newE
 rw [if_neg,if_neg (by omega)]
 rw [hj] at hm ⊢
 simp only [joinB,cb] at hm ⊢
 simp only [okB,okP,okC,Pal.cell,Bool.and_eq_false_iff,decide_eq_false_iff_not,Bool.and_eq_true,decide_eq_true_eq]
 omega
end
section
open Go.RowKit Go.Sort Go.Maps
open Oct
abbrev leavesV (ps py pv:Nat):Value:=.func (.func 84) #[] #[.pointer (some ⟨ps,0,none⟩),.pointer (some ⟨py,0,none⟩),.pointer (some ⟨pv,0,none⟩)]
structure KpE (E:Nat→Prop) (n₀:Nat) (W W':World):Prop where
 os:W'.os=W.os
 tape:W'.tape=W.tape
 output:W'.output=W.output
 size:W.heap.size≤W'.heap.size
 blk : ∀ k o,W.heap[k]? = some o → ¬E k→(k<n₀∨o.isCells=true)→W'.heap[k]? = some o
theorem KpE.refl (E:Nat→Prop) (n₀:Nat) (W:World):KpE E n₀ W W:=⟨rfl,rfl,rfl,Nat.le_refl _,fun _ _ h _ _=>h⟩
theorem KpE.trans {E:Nat→Prop} {n₀:Nat} {A B C:World} (h:KpE E n₀ A B) (h':KpE E n₀ B C):KpE E n₀ A C :=
 ⟨h'.os.trans h.os,h'.tape.trans h.tape,h'.output.trans h.output,Nat.le_trans h.size h'.size,fun k o hk hE hc=>h'.blk k o (h.blk k o hk hE hc) hE hc⟩
theorem KpE.below {E:Nat→Prop} {n₀:Nat} {W W':World} (h:Below W.heap.size W W'):KpE E n₀ W W' :=
 ⟨h.os,h.tape,h.output,h.size,fun k o hk _ _=>(h.block k (Array.getElem?_eq_some_iff.1 hk).1).trans hk⟩
theorem KpE.bk {E:Nat→Prop} {n₀:Nat} {W W':World} (h:KpE E n₀ W W') {g:Nat} {cs:Array Value} {t:TypeId} (hb:Bk W g cs t) (hE : ¬E g):Bk W' g cs t:=h.blk g _ hb hE (.inr rfl)
theorem KpE.store {E:Nat→Prop} {n₀:Nat} {W W':World} (h:KpE E n₀ W W') {sb:Nat} {most:Int} {ts:List Tr} (hS:StoreIs W (fun k=>E k∨n₀≤k) sb most ts):StoreIs W' (fun k=>E k∨n₀≤k) sb most ts :=
 hS.other (Far:=fun k=>¬E k∧k<n₀) ⟨h.os,h.tape,h.output,h.size,fun k hk hl=>(by
  have e:W.heap[k]? = some W.heap[k]:=Array.getElem?_eq_getElem hl
  rw [e];exact h.blk k _ e hk.1 (.inl hk.2))⟩ fun k hk _=>⟨fun h=>hk (.inl h),Nat.lt_of_not_le fun h=>hk (.inr h)⟩
structure LSt (E:Nat→Prop) (n₀ ps py pv sb l:Nat) (most:Int) (ts:List Tr) (W:World):Prop where
 ks:Bk W ps #[.pointer (some ⟨sb,0,none⟩)] 32
 ky:Bk W py #[.func (.yield l) #[] #[]] 127
 kv:Bk W pv #[leavesV ps py pv] 127
 st:StoreIs W (fun k=>E k∨n₀≤k) sb most ts
 ne : ¬E ps ∧ ¬E py ∧ ¬E pv
 eb : ∀ k,E k→k<n₀
 nb:n₀≤W.heap.size
theorem LSt.kept {E:Nat→Prop} {n₀ ps py pv sb l:Nat} {most:Int} {ts:List Tr} {W W':World} (h:LSt E n₀ ps py pv sb l most ts W) (hk:KpE E n₀ W W'):LSt E n₀ ps py pv sb l most ts W' :=
 ⟨hk.bk h.ks h.ne.1,hk.bk h.ky h.ne.2.1,hk.bk h.kv h.ne.2.2,hk.store h.st,h.ne,h.eb,Nat.le_trans h.nb hk.size⟩
def Abides (J:List (Pt × Nat × Tr)→World→Prop):Prop := ∀ s W W',J s W→Below W.heap.size W W'→J s W'
def LPost (E:Nat→Prop) (n₀:Nat) (J Jx:List (Pt × Nat × Tr)→World→Prop) (pre L:List (Pt × Nat × Tr)) (W:World) (e:Ending) (W':World):Prop :=
 ∃ b:Bool,e = .returned (.bool b)∧(b=true→J (pre++L) W'∧KpE E n₀ W W')∧(b=false → ∃ q,q <+: L∧Jx (pre++q) W')
structure LL (E:Nat→Prop) (n₀ ps py pv sb l:Nat) (most:Int) (ts:List Tr) (a:Pt) (lv:Int) (w:World) (JK:World→Prop) (wr:World):Prop where
 st:LSt E n₀ ps py pv sb l most ts wr
 kc:Bk wr w.heap.size #[a.x,a.y,a.z,lv] 39
 kp:KpE E n₀ w wr
 j:JK wr
set_option maxRecDepth 100000 in
set_option maxHeartbeats 4000000 in
theorem lv_node (m:Nat) (hm:m≤11) (a:Pt) (hx:0≤a.x∧a.x≤16384) (hy:0≤a.y∧a.y≤16384) (hz:0≤a.z∧a.z≤16384) (E:Nat→Prop) (n₀ ps py pv sb l:Nat) (most:Int) (ts:List Tr) (hlen:ts.length≤4194304) (d:Nat) (ch:Fin 8→Tr) (hT:Tr.node d ch∈ts)
 (J Jx:List (Pt × Nat × Tr)→World→Prop) (hJ:Abides J) (pre:List (Pt × Nat × Tr)) (D:Nat→List (Pt × Nat × Tr)) (hD : ∀ k,k≤8→D k <+: D 8) (D0:D 0=[]) (Dk:Nat→List (Pt × Nat × Tr)) (DS : ∀ k,k<8→D (k+1)=D k++Dk k) (w:World) (H:LSt E n₀ ps py pv sb l most ts w) (h0:J pre w)
 (IH:Bx (∀ (k:Nat) (hk:k<8) (W:World),LSt E n₀ ps py pv sb l most ts W→J (pre++D k) W→Calls Tryz.prog 84 #[cubeV (a.x+chX k (2 ^ (m+2))) (a.y+chY k (2 ^ (m+2))) (a.z+chZ k (2 ^ (m+2))) ((m:Int)+2),(idT ts (ch ⟨k,hk⟩):Int),.pointer (some ⟨ps,0,none⟩),.pointer (some ⟨py,0,none⟩),.pointer (some ⟨pv,0,none⟩)] W (LPost E n₀ J Jx (pre++D k) (Dk k) W))) :
 Calls Tryz.prog 84 #[cubeV a.x a.y a.z ((m:Int)+3),(idT ts (.node d ch):Int),.pointer (some ⟨ps,0,none⟩),.pointer (some ⟨py,0,none⟩),.pointer (some ⟨pv,0,none⟩)] w (LPost E n₀ J Jx pre (D 8) w):=by
 have Hk:=Bx.mk fun W (h:StoreIs W (fun k=>E k∨n₀≤k) sb most ts)=>kindV_any _ sb most ts _ hT hlen W h
 have Hc:=Bx.mk fun W (h:StoreIs W (fun k=>E k∨n₀≤k) sb most ts)=>storeKids_any _ sb most ts d ch hT W h
 have hcor:=Bx.mk (fun W i hi=>child_any (m+2) (by omega) a.x a.y a.z i hi (by omega) (by omega) (by omega) W)
 rw [show ((m+2+1:Nat):Int)=(m:Int)+3 by omega,show ((m+2:Nat):Int)=(m:Int)+2 by omega] at hcor
 have t0:(kindV (.node d ch) == 3)=true:=rfl
 have hidx:Bx (∀ (k:Nat),k<8 → ∀ W,(Instr.index 108 (kidsV ts (.node d ch)) (.int .i64 (k:Int))).run Tryz.prog W = .ok (.int .i64 (idT ts (kidN (.node d ch) k):Int)) W):=⟨fun k hk W=>by
  rw [kidN_eq _ hk]
  unfold kidsV
  rcases k with _ | _ | _ | _ | _ | _ | _ | _ | k
  all_goals first | rfl | omega⟩
 generalize hiT:(idT ts (Tr.node d ch):Int)=iT at *
 generalize kidsV ts (Tr.node d ch)=kV at *
 generalize kindV (Tr.node d ch)=kT at *
 have HH:=Bx.mk H
 have H0:=Bx.mk h0
 have HJ:=Bx.mk hJ
 have HD:=Bx.mk hD
 have HDS:=Bx.mk DS
 have HD0:=Bx.mk D0
 clear H h0 hJ hD D0 DS hT hlen hx hy hz hm hiT
 go_enter Tryz.func84,Tryz.ntmps84
 go_upto_region 1 with fail
 generalize hW:World.alloc w _=W
 have hb:=bl1 hW
 have kc:Bk W w.heap.size #[a.x,a.y,a.z,.int .i64 ((m:Int)+3)] 39:=bk0 hW
 clear hW
 have HW:=Bx.mk (HH.out.kept (KpE.below hb))
 have s0:=HW.out.ks.cell 0 rfl
 have HK:=Bx.mk (Hk.out W HW.out.st)
 have HC:=Bx.mk (Hc.out W HW.out.st)
 have KC:=Bx.mk kc
 have HB:=Bx.mk hb
 clear kc hb Hk Hc
 go_wp2_with (first | ((with_reducible refine HK.out.mono ?_);rintro _ _ ⟨rfl,rfl⟩) | ((with_reducible refine HC.out.mono ?_);rintro _ W2 ⟨rfl,hb2⟩))
 have HI:Bx (LL E n₀ ps py pv sb l most ts a ((m:Int)+3) w (J (pre++D 0)) W2):=⟨⟨HW.out.kept (KpE.below hb2),KC.out.later hb2,(KpE.below HB.out).trans (KpE.below hb2),by
  rw [HD0.out,List.append_nil];exact HJ.out _ _ _ (HJ.out _ _ _ H0.out HB.out) hb2⟩⟩
 clear hb2 HW s0 HK HC KC HB H0
 go_loopw [21] (fun v21 wr => ∃ k:Nat,k≤8∧v21 = .int .i64 k∧Bx (LL E n₀ ps py pv sb l most ts a ((m:Int)+3) w (J (pre++D k)) wr)) (fun i _=>8 - (intOf i).toNat)
 case atStart=>exact ⟨0,Nat.zero_le _,rfl,HI⟩
 case round =>
  clear HI
  obtain ⟨k,hk,rfl,HI⟩:=hrel
  by_cases hlt:k<8
  · have t1:decide ((k:Int)<8)=true:=by simp;omega
    have hix:=hidx.out k hlt
    have hkn:kidN (.node d ch) k=ch ⟨k,hlt⟩:=kidN_eq _ hlt
    rw [hkn] at hix
    have hv:=Bx.mk fun W=>IH.out k hlt W
    have hcork:=Bx.mk fun W=>hcor.out W k hlt
    have KV:=Bx.mk HI.out.st.kv
    have KC:=Bx.mk HI.out.kc
    clear hkn
    generalize (idT ts (ch ⟨k,hlt⟩):Int)=iK at *
    go_upto_region 6 with fail
    refine wp_region_relT 5 (fun i v w'=>match i with
     | 0=>v=leavesV ps py pv
     | 1=>v=cubeV a.x a.y a.z ((m:Int)+3)
     | 2=>v = .int .i64 (k:Int)
     | 3=>v=cubeV (a.x+chX k (2 ^ (m+2))) (a.y+chY k (2 ^ (m+2))) (a.z+chZ k (2 ^ (m+2))) ((m:Int)+2)
     | _=>v = .int .i64 (iK:Int)) (by kernel_rfl) (by kernel_rfl) 33 (by kernel_rfl) (by rfl) ?_ ?_ ?_
    · intro i hi v u1 u2 hb h
      match i,hi with
      | 0,_=>exact h
      | 1,_=>exact h
      | 2,_=>exact h
      | 3,_=>exact h
      | 4,_=>exact h
    · intro i o hi ho ρ w1 hb hc1 hc2 hc3 hk
      match i,hi with
      | 0, _ =>
        obtain rfl:=Option.some.inj ho
        have g0:ρ (.tmp 4) = .pointer (some ⟨pv,0,none⟩):=hk 4 (by simp [Op.operands,Call.operands])
        have k1:=KV.out.later hb
        have z0:=k1.cell 0 rfl
        clear hk hb IH hcor HI HH HJ hix hv
        go_simp
        exact Below.refl _ _
      | 1, _ =>
        obtain rfl:=Option.some.inj ho
        have g0:ρ (.tmp 5) = .pointer (some ⟨w.heap.size,0,none⟩):=hk 5 (by simp [Op.operands,Call.operands])
        have k1:=KC.out.later hb
        obtain ⟨z0,z1,z2,z3⟩:=k1.c4
        clear hk hb IH hcor HI HH HJ hix hv
        go_simp
        exact Below.refl _ _
      | 2, _ =>
        obtain rfl:=Option.some.inj ho
        have g0:ρ (.tmp 8) = .int .i64 (k:Int):=hk 8 (by simp [Op.operands,Call.operands])
        clear hk hb IH hcor HI HH HJ hix hv
        go_simp
        exact Below.refl _ _
      | 3, _ =>
        obtain rfl:=Option.some.inj ho
        have g0:ρ (.tmp 26)=cubeV a.x a.y a.z ((m:Int)+3):=hk 26 (by simp [Op.operands,Call.operands])
        have g1:ρ (.tmp 27) = .int .i64 (k:Int):=hk 27 (by simp [Op.operands,Call.operands])
        have h4:=hcork.out w1
        have H4:=Bx.mk h4
        clear h4
        clear hk hb IH hcor HI HH HJ hix hv
        go_simp
        all_goals exact H4.out
      | 4, _ =>
        obtain rfl:=Option.some.inj ho
        have g0:ρ (.tmp 9) = .int .i64 (iK:Int):=hk 9 (by simp [Op.operands,Call.operands])
        clear hk hb IH hcor HI HH HJ hix hv
        go_simp
        exact Below.refl _ _
    · intro vs W1 hlen hb hR
      match vs,hlen with
      | [v0, v1, v2, v3, v4], _ =>
        have r0:v0=leavesV ps py pv:=hR 0 v0 rfl
        have r1:v1=cubeV a.x a.y a.z ((m:Int)+3):=hR 1 v1 rfl
        have r2:v2 = .int .i64 (k:Int):=hR 2 v2 rfl
        have r3:v3=cubeV (a.x+chX k (2 ^ (m+2))) (a.y+chY k (2 ^ (m+2))) (a.z+chZ k (2 ^ (m+2))) ((m:Int)+2):=hR 3 v3 rfl
        have r4:v4 = .int .i64 (iK:Int):=hR 4 v4 rfl
        clear hR
        subst r0 r1 r2 r3 r4
        have hst:=HI.out.st.kept (KpE.below hb)
        have hq:=Bx.mk (hv.out W1 hst (HJ.out _ _ _ HI.out.j hb))
        have HB:=Bx.mk hb
        have kc1:=Bx.mk (HI.out.kc.later hb)
        clear hst hb KV KC hcork hv hix
        simp only [puts,List.take_succ_cons,List.take_zero,List.drop_succ_cons,List.drop_zero,List.map_cons,List.map_nil,List.zip_cons_cons,List.zip_nil_right,List.foldl_cons,List.foldl_nil]
        go_wp2_with fail
        refine hq.out.mono ?_
        rintro _ w5 ⟨b,rfl,hp1,hp2⟩
        cases b with
        | true =>
          obtain ⟨hj5,hk5⟩:=hp1 rfl
          have hlw:w.heap.size<W1.heap.size:=kc1.out.lt
          have HJ5:Bx (LL E n₀ ps py pv sb l most ts a ((m:Int)+3) w (J (pre++D (k+1))) w5):=⟨⟨(HI.out.st.kept (KpE.below HB.out)).kept hk5,hk5.bk kc1.out (fun h=>by have h1:=HH.out.eb _ h;have h2:=HH.out.nb;omega),(HI.out.kp.trans (KpE.below HB.out)).trans hk5,by rw [HDS.out k hlt,←List.append_assoc];exact hj5⟩⟩
          clear hp1 hp2 hj5 hk5 hlw HI HB hq kc1
          go_wp2_with fail
          go_roundw
          case rel=>exact ⟨k+1,by omega,by go_num,HJ5⟩
          case measure=>simp [intOf];omega
        | false =>
          have hx5:=Bx.mk (hp2 rfl)
          clear hp1 hp2 HI HB hq kc1
          go_wp2_with fail
          go_ret
          obtain ⟨q,hq1,hq2⟩:=hx5.out
          refine ⟨false,rfl,(fun h=>by cases h),fun _=>⟨D k++q,?_,by rw [←List.append_assoc];exact hq2⟩⟩
          refine List.IsPrefix.trans ?_ (HD.out (k+1) (by omega))
          rw [HDS.out k hlt]
          obtain ⟨r,hr⟩:=hq1
          exact ⟨r,by rw [List.append_assoc,hr]⟩
  · obtain rfl:k=8:=by omega
    have t1:decide (((8:Nat):Int)<8)=false:=by decide
    go_wp2_with fail
    go_ret
    exact ⟨true,rfl,fun _=>⟨HI.out.j,HI.out.kp⟩,fun h=>by cases h⟩
end
section
open Go.RowKit Go.Sort Go.Maps
open Oct
noncomputable abbrev leafArgs (ts:List Tr) (x:Pt × Nat × Tr):Array Value:=#[cubeV x.1.x x.1.y x.1.z ((x.2.1:Int)+2),(idT ts x.2.2:Int)]
theorem leavesK_prefix (n:Nat) (a:Pt) (ch:Fin 8→Tr) : ∀ k,k≤8→leavesK n a ch k <+: leavesK n a ch 8:=by
 have key : ∀ j k,k+j≤8→leavesK n a ch k <+: leavesK n a ch (k+j):=by
  intro j
  induction j with
  | zero=>intro k _;exact List.prefix_refl _
  | succ j ih =>
    intro k h
    refine (ih k (by omega)).trans ?_
    rw [show k+(j+1)=(k+j)+1 by omega,leavesK_succ n a ch (by omega:k+j<8)]
    exact List.prefix_append _ _
 intro k hk
 have:=key (8 - k) k (by omega)
 rwa [show k+(8 - k)=8 by omega] at this
theorem LPost.of_yield {E:Nat→Prop} {n₀:Nat} {J Jx:List (Pt × Nat × Tr)→World→Prop} {pre:List (Pt × Nat × Tr)} {x:Pt × Nat × Tr} {W W1:World} (hk:KpE E n₀ W W1) {e:Ending} {W':World} (h:(e = .returned (.bool true)∧J (pre++[x]) W'∧KpE E n₀ W1 W')∨(e = .returned (.bool false)∧Jx (pre++[x]) W')):LPost E n₀ J Jx pre [x] W e W':=by
 rcases h with ⟨rfl,h1,h2⟩ | ⟨rfl,h1⟩
 · exact ⟨true,rfl,fun _=>⟨h1,hk.trans h2⟩,fun h=>by cases h⟩
 · exact ⟨false,rfl,(fun h=>by cases h),fun _=>⟨[x],List.prefix_refl _,h1⟩⟩
theorem lvisit_any (E:Nat→Prop) (n₀ ps py pv sb l N:Nat) (hN:N≤12) (most:Int) (ts:List Tr) (hG:Good ts) (hlen:ts.length≤4194304) (J Jx:List (Pt × Nat × Tr)→World→Prop) (hJ:Abides J) (NN:Nat) (Lt:List (Pt × Nat × Tr))
 (hY : ∀ m pre x W,x∈Lt→J pre W→pre.length<NN→YieldAt Fence.wide m Tryz.prog l (leafArgs ts x) W fun e W'=>(e = .returned (.bool true)∧J (pre++[x]) W'∧KpE E n₀ W W')∨(e = .returned (.bool false)∧Jx (pre++[x]) W')) :
 ∀ (n : Nat) (a : Pt) (_hin : InT N n a) (T : Tr) (_hT : T ∈ ts) (_hD : Dep n T) (_hL : ∀ x ∈ leavesT n a T, x ∈ Lt) (pre : List (Pt × Nat × Tr)) (W : World), pre.length + (leavesT n a T).length ≤ NN → LSt E n₀ ps py pv sb l most ts W → J pre W →
   Calls Tryz.prog 84 #[cubeV a.x a.y a.z ((n:Int)+2),(idT ts T:Int),.pointer (some ⟨ps,0,none⟩),.pointer (some ⟨py,0,none⟩),.pointer (some ⟨pv,0,none⟩)] W (LPost E n₀ J Jx pre (leavesT n a T) W):=by
 intro n
 have leaf : ∀ (n:Nat) (a:Pt) (T:Tr),kindV T ≠ 3→leavesT n a T=[(a,n,T)]→T∈ts→(∀ x∈leavesT n a T,x∈Lt) → ∀ (pre:List (Pt × Nat × Tr)) (W:World),pre.length+(leavesT n a T).length≤NN→LSt E n₀ ps py pv sb l most ts W→J pre W →
  Calls Tryz.prog 84 #[cubeV a.x a.y a.z ((n:Int)+2),(idT ts T:Int),.pointer (some ⟨ps,0,none⟩),.pointer (some ⟨py,0,none⟩),.pointer (some ⟨pv,0,none⟩)] W (LPost E n₀ J Jx pre (leavesT n a T) W):=by
  intro n a T hk hl hT hL pre W hlen2 H hj
  rw [hl] at hL hlen2 ⊢
  refine lv_leaf l 3 ps py pv sb a.x a.y a.z _ _ (kindV T) W _ (fun e W' h=>by obtain ⟨b,hb,_⟩:=h;exact ⟨b,hb⟩) H.ks H.ky hk (fun W' hb=>kindV_any _ sb most ts T hT hlen W' (H.st.later hb)) (fun W' hb=>?_)
  exact YieldAt.mono (hY 3 pre (a,n,T) W' (hL _ (by simp)) (hJ _ _ _ hj hb) (by simp at hlen2;omega)) fun e W2 h=>LPost.of_yield (KpE.below hb) h
 induction n with
 | zero =>
   intro a hin T hT hD hL pre W hn H hj
   cases hD with
   | uni _ c=>exact leaf 0 a _ (by simp [kindV]) (leavesT_uni _ _ _) hT hL pre W hn H hj
   | brick l=>exact leaf 0 a _ (by simp [kindV]) (leavesT_brick _ _ _) hT hL pre W hn H hj
 | succ n ih =>
   intro a hin T hT hD hL pre W hn H hj
   cases hD with
   | uni _ c=>exact leaf (n+1) a _ (by simp [kindV]) (leavesT_uni _ _ _) hT hL pre W hn H hj
   | node _ ch hDk =>
     obtain ⟨b1,b2,b3⟩:=hin.bd hN
     have hle:=hin.le
     rw [←leavesK_all n (n+3) a ch] at hL hn ⊢
     rw [show (((n+1:Nat):Int)+2)=(n:Int)+3 by omega]
     refine lv_node n (by omega) a b1 b2 b3 E n₀ ps py pv sb l most ts hlen (n+3) ch hT J Jx hJ pre (leavesK n a ch) (leavesK_prefix n a ch) (leavesK_zero n a ch) (fun k=>if h:k<8 then leavesT n (Tr.cor a n k) (ch ⟨k,h⟩) else []) (fun k hk=>by rw [leavesK_succ n a ch hk,dif_pos hk]) W H hj ⟨fun k hk W' hst hj'=>?_⟩
     have hsub:=leavesK_prefix n a ch (k+1) (by omega)
     rw [leavesK_succ n a ch hk] at hsub
     have hlen3:=hsub.length_le
     rw [List.length_append] at hlen3
     have h:=ih (Tr.cor a n k) (hin.kid hk) (ch ⟨k,hk⟩) (hG.closed.2 _ ch hT _) (hDk _) (fun x hx=>hL x (hsub.subset (List.mem_append_right _ hx))) (pre++leavesK n a ch k) W' (by rw [List.length_append];omega) hst hj'
     rw [dif_pos hk]
     exact h
set_option maxRecDepth 100000 in
set_option maxHeartbeats 1000000 in
theorem leaves1_any (E:Nat→Prop) (n₀ ps pd pi sb l n:Nat) (hn:n≤12) (most:Int) (ts:List Tr) (hG:Good ts) (hlen:ts.length≤4194304) (T:Tr) (hT:T∈ts) (hDp:Dep n T) (J Jx:List (Pt × Nat × Tr)→World→Prop) (hJ:Abides J) (hJx:Abides Jx)
 (hY : ∀ m pre x W,x∈leavesT n ⟨0,0,0⟩ T→J pre W→pre.length<(leavesT n ⟨0,0,0⟩ T).length→YieldAt Fence.wide m Tryz.prog l (leafArgs ts x) W fun e W'=>(e = .returned (.bool true)∧J (pre++[x]) W'∧KpE E n₀ W W')∨(e = .returned (.bool false)∧Jx (pre++[x]) W'))
 (W:World) (ks:Bk W ps #[.pointer (some ⟨sb,0,none⟩)] 32) (kd:Bk W pd #[.int .i64 ((n:Int)+2)] 3) (ki:Bk W pi #[(idT ts T:Int)] 3) (hS:StoreIs W (fun k=>E k∨n₀≤k) sb most ts) (hE : ¬E ps) (hEb : ∀ k,E k→k<n₀) (hn₀:n₀≤W.heap.size) (h0:J [] W) :
 Calls Tryz.prog 83 #[.func (.yield l) #[] #[],.pointer (some ⟨ps,0,none⟩),.pointer (some ⟨pd,0,none⟩),.pointer (some ⟨pi,0,none⟩)] W fun e W'=>(∃ v,e = .returned v)∧(J (leavesT n ⟨0,0,0⟩ T) W' ∨ ∃ q,q <+: leavesT n ⟨0,0,0⟩ T∧Jx q W'):=by
 have hwh:=Bx.mk fun W=>whole_cube_any ((n:Int)+2) W
 have hvis:=Bx.mk fun W' H hj=>lvisit_any E n₀ ps W.heap.size (W.heap.size+1) sb l n hn most ts hG hlen J Jx hJ _ (leavesT n ⟨0,0,0⟩ T) hY n ⟨0,0,0⟩ (InT.top n) T hT hDp (fun x h=>h) [] W' (by simp) H hj
 simp only [List.nil_append] at hvis
 have Hks:=Bx.mk ks
 have Hkd:=Bx.mk kd
 have Hki:=Bx.mk ki
 have HS:=Bx.mk hS
 have H0:=Bx.mk h0
 have HJ:=Bx.mk hJ
 have HE:=Bx.mk hE
 have HEb:=Bx.mk hEb
 have Hn:=Bx.mk hn₀
 generalize (idT ts T:Int)=iT at *
 clear hG hlen hn hT hDp hS ks kd ki h0 hJ hJx hE hEb hn₀ hY
 go_enter Tryz.func83,Tryz.ntmps83
 go_upto_region 3 with fail
 generalize hW2:World.alloc (World.alloc W _) _=W2
 have hB:=bl2 hW2
 have ky:Bk W2 W.heap.size #[.func (.yield l) #[] #[]] 127:=bk1 hW2
 have kv:Bk W2 (W.heap.size+1) #[leavesV ps W.heap.size (W.heap.size+1)] 127:=bk0 hW2
 clear hW2
 have HL:=Bx.mk (show LSt E n₀ ps W.heap.size (W.heap.size+1) sb l most ts W2 from
  ⟨Hks.out.later hB,ky,kv,HS.out.later hB,⟨HE.out,fun h=>by have:=HEb.out _ h;have:=Hn.out;omega,fun h=>by have:=HEb.out _ h;have:=Hn.out;omega⟩,HEb.out,Nat.le_trans Hn.out hB.size⟩)
 have HJ2:=Bx.mk (HJ.out _ _ _ H0.out hB)
 have KV:=Bx.mk kv
 have KD:=Bx.mk (Hkd.out.later hB)
 have KI:=Bx.mk (Hki.out.later hB)
 clear ky kv hB Hks Hkd Hki HS H0 HE HEb Hn
 refine wp_region_relT 4 (fun i v w'=>match i with
  | 0=>v=leavesV ps W.heap.size (W.heap.size+1)
  | 1=>v = .int .i64 ((n:Int)+2)
  | 2=>v=cubeV 0 0 0 ((n:Int)+2)
  | _=>v = .int .i64 (iT:Int)) (by kernel_rfl) (by kernel_rfl) 12 (by kernel_rfl) (by rfl) ?_ ?_ ?_
 · intro i hi v u1 u2 hb h
   match i,hi with
   | 0,_=>exact h
   | 1,_=>exact h
   | 2,_=>exact h
   | 3,_=>exact h
 · intro i o hi ho ρ w1 hb hc1 hc2 hc3 hk
   match i,hi with
   | 0, _ =>
     obtain rfl:=Option.some.inj ho
     have g0:ρ (.tmp 5) = .pointer (some ⟨W.heap.size+1,0,none⟩):=hk 5 (by simp [Op.operands,Call.operands])
     have k1:=KV.out.later hb
     have z0:=k1.cell 0 rfl
     clear hk hb HL HJ2 HJ hvis hwh
     go_simp
     exact Below.refl _ _
   | 1, _ =>
     obtain rfl:=Option.some.inj ho
     have g0:ρ (.tmp 2) = .pointer (some ⟨pd,0,none⟩):=hk 2 (by simp [Op.operands,Call.operands])
     have k1:=KD.out.later hb
     have z0:=k1.cell 0 rfl
     clear hk hb HL HJ2 HJ hvis hwh
     go_simp
     exact Below.refl _ _
   | 2, _ =>
     obtain rfl:=Option.some.inj ho
     have g0:ρ (.tmp 8) = .int .i64 ((n:Int)+2):=hk 8 (by simp [Op.operands,Call.operands])
     have h4:=hwh.out w1
     have H4:=Bx.mk h4
     clear h4
     clear hk hb HL HJ2 HJ hvis hwh
     go_simp
     all_goals exact H4.out
   | 3, _ =>
     obtain rfl:=Option.some.inj ho
     have g0:ρ (.tmp 3) = .pointer (some ⟨pi,0,none⟩):=hk 3 (by simp [Op.operands,Call.operands])
     have k1:=KI.out.later hb
     have z0:=k1.cell 0 rfl
     clear hk hb HL HJ2 HJ hvis hwh
     go_simp
     exact Below.refl _ _
 · intro vs W1 hlen hb hR
   match vs,hlen with
   | [v0, v1, v2, v3], _ =>
     have r0:v0=leavesV ps W.heap.size (W.heap.size+1):=hR 0 v0 rfl
     have r1:v1 = .int .i64 ((n:Int)+2):=hR 1 v1 rfl
     have r2:v2=cubeV 0 0 0 ((n:Int)+2):=hR 2 v2 rfl
     have r3:v3 = .int .i64 (iT:Int):=hR 3 v3 rfl
     clear hR
     subst r0 r1 r2 r3
     have hq:=Bx.mk (hvis.out W1 (HL.out.kept (KpE.below hb)) (HJ.out _ _ _ HJ2.out hb))
     clear hb hvis HL HJ2 KV KD KI hwh HJ
     simp only [puts,List.take_succ_cons,List.take_zero,List.drop_succ_cons,List.drop_zero,List.map_cons,List.map_nil,List.zip_cons_cons,List.zip_nil_right,List.foldl_cons,List.foldl_nil]
     go_wp2_with fail
     refine hq.out.mono ?_
     rintro _ w5 ⟨b,rfl,hp1,hp2⟩
     have HP:Bx (J (leavesT n ⟨0,0,0⟩ T) w5 ∨ ∃ q,q <+: leavesT n ⟨0,0,0⟩ T∧Jx q w5):=⟨by
      cases b with
      | true=>exact .inl (hp1 rfl).1
      | false=>exact .inr (hp2 rfl)⟩
     clear hp1 hp2 hq
     go_wp2_with fail
     go_end0
     exact ⟨⟨_,rfl⟩,HP.out⟩
theorem leaves_stops (E:Nat→Prop) (n₀ ps pd pi sb n:Nat) (hn:n≤12) (most:Int) (ts:List Tr) (hG:Good ts) (hlen:ts.length≤4194304) (T:Tr) (hT:T∈ts) (hDp:Dep n T) (m:Nat) (w:World) (ks:Bk w ps #[.pointer (some ⟨sb,0,none⟩)] 32) (kd:Bk w pd #[.int .i64 ((n:Int)+2)] 3) (ki:Bk w pi #[(idT ts T:Int)] 3) (hS:StoreIs w (fun k=>E k∨n₀≤k) sb most ts) (hE : ¬E ps) (hEb : ∀ k,E k→k<n₀) (hn₀:n₀≤w.heap.size) :
 SeqStopsK Fence.wide m Tryz.prog 83 #[.pointer (some ⟨ps,0,none⟩),.pointer (some ⟨pd,0,none⟩),.pointer (some ⟨pi,0,none⟩)] (fun x:{ x // x∈leavesT n ⟨0,0,0⟩ T }=>leafArgs ts x.1) (KpE E n₀) (fun xs=>xs.map (·.1)=leavesT n ⟨0,0,0⟩ T) (fun xs=>xs.map (·.1) <+: leavesT n ⟨0,0,0⟩ T) (leavesT n ⟨0,0,0⟩ T).length w:=by
 intro l J Jx W hW hJ hJx hY h0
 refine callsIn_wide.2 ?_
 refine (leaves1_any E n₀ ps pd pi sb l n hn most ts hG hlen T hT hDp (fun s W' => ∃ ys:List { x // x∈leavesT n ⟨0,0,0⟩ T },ys.map (·.1)=s∧J ys W') (fun s W' => ∃ ys:List { x // x∈leavesT n ⟨0,0,0⟩ T },ys.map (·.1)=s∧Jx ys W') ?_ ?_ ?_ W (ks.later hW) (kd.later hW) (ki.later hW) (hS.later hW) hE hEb (Nat.le_trans hn₀ hW.size) ⟨[],rfl,h0⟩).mono ?_
 · rintro s A B ⟨ys,hy,hj⟩ hb
   exact ⟨ys,hy,hJ _ _ _ none hj (grown_of_below hb) (fun r e=>by cases e)⟩
 · rintro s A B ⟨ys,hy,hj⟩ hb
   exact ⟨ys,hy,hJx _ _ _ none hj (grown_of_below hb) (fun r e=>by cases e)⟩
 · rintro m' pre x W1 hx ⟨ys,rfl,hj⟩ hl
   rw [List.length_map] at hl
   refine YieldAt.mono (YieldAt.anyDepth' m' (hY ys ⟨x,hx⟩ W1 hj hl)) ?_
   rintro e W' (⟨rfl,h1,h2⟩ | ⟨rfl,h1⟩)
   · exact .inl ⟨rfl,⟨_,by simp,h1⟩,h2⟩
   · exact .inr ⟨rfl,⟨_,by simp,h1⟩⟩
 · rintro e W' ⟨hv,⟨ys,hy,hj⟩ | ⟨q,hq,ys,rfl,hj⟩⟩
   · exact ⟨hv,.inl ⟨ys,hy,hj⟩⟩
   · exact ⟨hv,.inr ⟨ys,hq,hj⟩⟩
theorem tleaves_any (sb:Nat) (i d:Int) (w:World) :
 Calls Tryz.prog 25 #[.pointer (some ⟨sb,0,none⟩),i,d] w fun e w'=>e = .returned (.func (.func 83) #[] #[.pointer (some ⟨w.heap.size,0,none⟩),.pointer (some ⟨w.heap.size+1+1,0,none⟩),.pointer (some ⟨w.heap.size+1,0,none⟩)])∧w'=((w.alloc (.cells #[.pointer (some ⟨sb,0,none⟩)] 32)).alloc (.cells #[i] 3)).alloc (.cells #[d] 3):=by
 go_enter Tryz.func25,Tryz.ntmps25
 go_wp2_with fail
 go_ret
 exact ⟨rfl,rfl⟩
end
end Go.Proofs.YtfcbajmjaifjlaaGreat
