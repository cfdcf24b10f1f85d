/- Jby, Pal, RlM, Pck, Pup: joined by program, for one claim. -/
import Derived.Test.YtajhkncolbgkbaaDoorMr
import Derived.Test.YtajhkncolbgkbaaDoorM8
import Derived.Test.YtajhkncolbgkbaaDoorM5
import Derived.RangeFuncNested
import Derived.RangeFuncBound
import Derived.RangeFuncCalls
import Derived.RangeFuncLeaves
import Derived.Shelf.Abstract
import Derived.Shelf.RegionOpen
import Derived.WalkKit
import Derived.OwnWalkIn
import Derived.TacticsInMore
import Derived.LoopNIn
import Derived.LoopIn
import Derived.Test.YtajhkncolbgkbaaDoorM2
import Derived.OrdersIn
import Derived.Test.YtajhkncolbgkbaaDoorM4
set_option linter.unusedVariables false
set_option linter.unusedSimpArgs false
namespace Go.Proofs.YtajhkncolbgkbaaDoor
section
open Go.RowKit Go.Sort Go.Maps
set_option maxRecDepth 100000 in
set_option maxHeartbeats 1000000 in
theorem jbytes_any (n k:Nat) (hk:k≤4) (w:World) :
 Calls Tryd.prog 56 #[.int .i64 (n:Int),.int .i64 (k:Int)] w fun e w'=>e = .returned (.string (strOfNums (bytesP n k)))∧Below w.heap.size w w':=by
 have hmk : ∀ W,(Instr.makeSlice 75 (.int .i64 (k:Int)) (.int .i64 (k:Int))).run Tryd.prog W = .ok (.slice (some ⟨W.heap.size,0,none⟩) k k) (W.alloc (.cells (madeCells #[.int .u8 0] k) 5)) :=
  fun W=>run_make_row' (P:=Tryd.prog) 75 5 (.int .u8 0) 1 Tryd.underlying75 (by kernel_rfl) rfl .i64 .i64 k (by omega) (by omega) W
 go_enter Tryd.func56,Tryd.ntmps56
 go_wp2_with fail
 clear hmk
 go_loopw [11] (fun i wr => ∃ j:Nat,j≤k∧i = .int .i64 j∧Bx (wr.rowIs w.heap.size 5 k (fun a=>.int .u8 (if a<j then ((n / 256 ^ a % 256:Nat):Int) else 0)))∧Bx (Below w.heap.size w wr)) (fun i _=>k - (intOf i).toNat)
 case atStart=>exact ⟨0,Nat.zero_le _,rfl,⟨(World.rowIs_made _ _ _ _).congr (fun i _=>rfl)⟩,⟨(Below.refl _ _).alloc (Nat.le_refl _) _⟩⟩
 case round =>
  obtain ⟨j,hj,rfl,hrow,hB⟩:=hrel
  by_cases hlt:j<k
  · have t0:decide ((j:Int)<(k:Int))=true:=by simp;omega
    have hsh:=shr_bytes n j (by omega)
    have hw8:IntKind.u8.wrap ((n / 256 ^ j:Nat):Int)=((n / 256 ^ j % 256:Nat):Int):=by
     rw [IntKind.wrap_u8];omega
    have hw:IntKind.i64.wrap (8 * (j:Int))=8 * (j:Int):=IntWalk.i64_in _ (by omega)
    obtain ⟨y,hy⟩ : ∃ y,y=8 * (j:Int):=⟨_,rfl⟩
    rw [←hy] at hsh
    replace hw:IntKind.i64.wrap (8 * (j:Int))=y:=by rw [hy];exact hw
    clear hy
    obtain ⟨x,hx⟩ : ∃ x,x=n / 256 ^ j % 256:=⟨_,rfl⟩
    rw [←hx] at hw8
    have Hx:=Bx.mk hx
    clear hx
    obtain ⟨q,hq⟩ : ∃ q,q=n / 256 ^ j:=⟨_,rfl⟩
    rw [←hq] at hw8 hsh
    clear hq
    have b1:(0:Int)≤(j:Int):=by omega
    have b2:(j:Int)<(k:Int):=by omega
    have hcell:=hrow.out.cell hlt
    have hfr:=hrow.out.frozen j
    go_wp2_with fail
    have hrow2:=Bx.mk ((hrow.out.set j (.int .u8 (x:Int))).congr (g:=fun a=>.int .u8 (if a<j+1 then ((n / 256 ^ a % 256:Nat):Int) else 0)) (fun a ha=>by
     by_cases e:a=j
     · rw [e];simp only [if_true];rw [if_pos (by omega),Hx.out]
     · simp only [e,if_false];by_cases h5:a<j
       · rw [if_pos h5,if_pos (by omega)]
       · rw [if_neg h5,if_neg (by omega)]))
    have hB2:=Bx.mk (show Below w.heap.size w (wr.setCell ⟨w.heap.size,j,none⟩ (.int .u8 (x:Int))) from hB.out.setCell (Nat.le_refl _) _)
    clear hcell hfr
    go_roundw
    case rel=>exact ⟨j+1,by omega,by go_num,hrow2,hB2⟩
    case measure=>simp [intOf];omega
  · obtain rfl:j=k:=by omega
    have t0:decide ((j:Int)<(j:Int))=false:=by simp
    have hsl:Sl wr .u8 (some ⟨w.heap.size,0,none⟩) (bytesP n j):=fun i x hx=>⟨w.heap.size,0,rfl,by
     have hi:i<j:=by have:=(List.getElem?_eq_some_iff.1 hx).1;rwa [bytes_len] at this
     have:=hrow.out.cell hi
     simp only [hi,if_true] at this
     rw [Nat.zero_add,this]
     rw [bytes_at hi] at hx
     rw [Option.some.inj hx]⟩
    have hcv:=conv_str (P:=Tryd.prog) 75 5 9 Tryd.underlying75 Tryd.underlying5 Tryd.underlying9 hsl j j (bytes_len n j).symm
    clear hsl hrow
    go_wp2_with fail
    go_ret
    exact ⟨rfl,hB.out⟩
theorem shl_eight (n:Nat) (hn:n<16777216):Op.shift .shl .i64 (n:Int) .u64 8=pure (.int .i64 ((n * 256:Nat):Int)):=by
 have:=shift_shl_i64 (x:=(n:Int)) (yk:=.u64) (y:=8) (by omega) (by omega)
 refine this.trans ?_
 rw [show (8:Int).toNat=8 by rfl,show (2:Int) ^ 8=256 by rfl,IntWalk.i64_in _ (by omega)]
 simp
theorem or_eight (n x:Nat) (hn:n<16777216) (hx:x<256):bits .or .i64 ((n * 256:Nat):Int) (x:Int)=((n * 256+x:Nat):Int):=by
 rw [i64_or_nat _ _ (by omega) (by omega)]
 have h2:=Nat.two_pow_add_eq_or_of_lt (i:=8) (b:=x) (by simpa using hx) n
 rw [show n * 256 ||| x=n * 256+x by rw [Nat.mul_comm];exact h2.symm]
theorem numK_drop {t:List Int} {k:Nat} {x:Int} (h:t[k]? = some x):numK (t.drop k)=numK (t.drop (k+1)) * 256+x.toNat:=by
 obtain ⟨hk,hx⟩:=List.getElem?_eq_some_iff.1 h
 rw [List.drop_eq_getElem_cons hk,hx]
 simp only [numK];omega
set_option maxRecDepth 100000 in
set_option maxHeartbeats 1000000 in
theorem jnumber_any (t:List Int) (hb:Byts t) (hl:t.length≤4) (w:World) :
 Calls Tryd.prog 50 #[.string (strOfNums t)] w fun e w'=>e = .returned (.int .i64 (numK t:Nat))∧w'=w:=by
 obtain ⟨n,hn⟩ : ∃ n,n=t.length:=⟨_,rfl⟩
 have hsz:(strOfNums t).size=n:=by rw [strOfNums_size,hn]
 have Hn:=Bx.mk hn
 have Hb:=Bx.mk hb
 rw [←hn] at hl
 have e0:IntKind.i64.wrap ((n:Int) - 1)=(n:Int) - 1:=IntWalk.i64_in _ (by omega)
 clear hn hb
 go_enter Tryd.func50,Tryd.ntmps50
 go_wp2_with fail
 clear e0
 go_loopw [3,4] (fun v3 v4 wr => ∃ k:Nat,k≤n∧v4 = .int .i64 ((k:Int) - 1)∧v3 = .int .i64 (numK (t.drop k):Nat)∧wr=w) (fun _ i _=>(intOf i+1).toNat)
 case atStart=>exact ⟨n,Nat.le_refl _,rfl,by rw [Hn.out,List.drop_length];rfl,rfl⟩
 case round =>
  obtain ⟨k,hk,rfl,rfl,rfl⟩:=hrel
  cases k with
  | succ j =>
    rw [show ((j+1:Nat):Int) - 1=(j:Int) by omega]
    have t0:decide ((j:Int) ≥ 0)=true:=by simp
    obtain ⟨x,hx⟩ : ∃ x,t[j]? = some x:=⟨_,List.getElem?_eq_getElem (by rw [←Hn.out];omega)⟩
    have hxb:=Hb.out x (List.mem_of_getElem? hx)
    obtain ⟨hk2,hget⟩:=str_get Hb.out hx
    have hnk:=numK_lt (l:=t.drop (j+1)) (fun x hx=>Hb.out x (List.mem_of_mem_drop hx))
    have hle:256 ^ (t.drop (j+1)).length≤256 ^ 3:=Nat.pow_le_pow_right (by decide) (by rw [List.length_drop,←Hn.out];omega)
    have hn1:numK (t.drop (j+1))<16777216:=by omega
    have hsh:=shl_eight _ hn1
    have hor:=or_eight _ x.toNat hn1 (by omega)
    have hN:=Bx.mk (numK_drop hx)
    rw [show ((x.toNat:Nat):Int)=x by omega] at hor
    have hx8:IntKind.i64.wrap x=x:=IntWalk.i64_in _ (by omega)
    have e1:IntKind.i64.wrap ((j:Int) - 1)=(j:Int) - 1:=IntWalk.i64_in _ (by omega)
    obtain ⟨n2,hn2⟩ : ∃ n2,n2=numK (t.drop (j+1)) * 256+x.toNat:=⟨_,rfl⟩
    rw [←hn2] at hN hor
    clear hn2 hx hnk hle
    generalize numK (t.drop (j+1))=n1 at *
    generalize n1 * 256=n3 at *
    have b1:(0:Int)≤(j:Int):=by omega
    have b2:(j:Int)<(n:Int):=by omega
    go_wp2_with fail
    go_roundw
    case rel=>exact ⟨j,by omega,rfl,by rw [hN.out],by first | rfl | trivial⟩
    case measure=>simp [intOf]
  | zero =>
    have t0:decide (((0:Nat):Int) - 1 ≥ 0)=false:=by decide
    rw [show ((0:Nat):Int) - 1 = -1 by rfl]
    have t1:decide ((-1:Int) ≥ 0)=false:=by decide
    rw [List.drop_zero]
    go_wp2_with fail
    go_ret
    exact ⟨rfl,rfl⟩
end
section
open Go.RowKit Go.Sort Go.Maps
attribute [local go_sem] Oper.semAt_some
theorem pg_room (k:Nat):Fence.wide.room k:=fun d h=>by cases h
theorem pg_round {m m':Nat} {P:Program} {l:Nat} {f:FuncId} {tmps:Array Value} {assign body:Code} {w:World} {R:Ending→World→Prop}
 (h:RoundIn Fence.wide m P l f tmps assign body w R):RoundIn Fence.wide m' P l f tmps assign body w R:=⟨h.1,fun c cs _=>h.2 c cs (pg_room _)⟩
theorem pg_yield {m:Nat} (m':Nat) {P:Program} {l:Nat} {args:Array Value} {W:World} {R:Ending→World→Prop} (h:YieldAt Fence.wide m P l args W R):YieldAt Fence.wide m' P l args W R:=by
 obtain ⟨fn,tmps,assign,body,hy,hR⟩:=h
 exact ⟨fn,tmps,assign,body,hy,pg_round hR⟩
def rdsP (d:Dk):List (List Int × Int):=(List.range d.p.length).map fun (i:Nat)=>d.read (i:Int)
theorem rdsP_len (d:Dk):(rdsP d).length=d.p.length:=by simp [rdsP]
theorem rdsP_at (d:Dk) {k:Nat} (h:k<d.p.length):(rdsP d)[k]? = some (d.read (k:Int)):=by simp [rdsP,h]
theorem rdsP_succ (d:Dk) {k:Nat} (h:k<d.p.length):(rdsP d).take (k+1)=(rdsP d).take k++[d.read (k:Int)]:=by
 have hk:k<(rdsP d).length:=by rw [rdsP_len];exact h
 rw [List.take_succ_eq_append_getElem hk]
 have:=rdsP_at d h
 rw [List.getElem?_eq_getElem hk] at this
 rw [Option.some.inj this]
abbrev rdArgs (x:List Int × Int):Array Value:=#[.string (strOfNums x.1),.int .i64 x.2]
set_option maxRecDepth 100000 in
set_option maxHeartbeats 4000000 in
theorem all1_any (l bd dp g mb cap m:Nat) (d:Dk) (S:Nat→Prop) (hS : ∀ k,In3 dp g mb k → ¬S k) (hSb : ¬S bd) (J Jx:List (List Int × Int)→World→Prop) (hJ : ∀ s W W',J s W→Below W.heap.size W W'→J s W')
 (W:World) (kd:Bk W bd #[.pointer (some ⟨dp,0,none⟩)] 24) (hd:DkIs W dp g mb cap m d)
 (hY : ∀ n pre x W,x∈rdsP d→J pre W→pre.length<d.p.length→YieldAt Fence.wide n Tryd.prog l (rdArgs x) W fun e W'=>(e = .returned (.bool true)∧J (pre++[x]) W'∧Chg S W W')∨(e = .returned (.bool false)∧Jx (pre++[x]) W')) (h0:J [] W) :
 Calls Tryd.prog 63 #[.func (.yield l) #[] #[],.pointer (some ⟨bd,0,none⟩)] W fun e W'=>(∃ v,e = .returned v)∧(J (rdsP d) W' ∨ ∃ q,q <+: rdsP d∧Jx q W'):=by
 have HKD:=Bx.mk fun W' (h:Chg S W W')=>kd.chg h hSb
 have HD:=Bx.mk fun W' (h:Chg S W W')=>hd.chg h hS
 have hl:=Bx.mk (dklen_any W dp g mb cap m d hd)
 have HR:=Bx.mk fun W' (h:Chg S W W') i=>read_any W' dp g mb cap m d (HD.out W' h) i
 have HY:=Bx.mk hY
 have HJ:=Bx.mk hJ
 have H0:=Bx.mk h0
 have c0:=kd.cell 0 rfl
 have hfew:=hd.ok.few
 obtain ⟨n,hn⟩ : ∃ n,n=d.p.length:=⟨_,rfl⟩
 have Hn:=Bx.mk hn
 rw [←hn] at hl hfew
 clear hS hSb kd hd hY h0 hJ HD hn
 refine (callsIn_wide (n:=3)).1 ?_
 refine callsIn_of_wp Tryd.func63 rfl trivial ?_ rfl
 simp only [Tryd.ntmps63,List.size_toArray,List.length_cons,List.length_nil,Nat.reduceAdd,Nat.reduceSub,Array.replicate_succ,Array.replicate_zero,List.push_toArray,List.append_toArray,List.nil_append,List.cons_append]
 gi_wp2_with ((try refine ⟨trivial,?_⟩);gi_at_call 38;refine (callsIn_wide.2 hl.out).mono ?_;rintro _ _ ⟨rfl,rfl⟩)
 clear c0
 gi_loopw [6] (fun v6 wr => ∃ k:Nat,k≤n∧v6 = .int .i64 k∧Bx (J ((rdsP d).take k) wr)∧Bx (Chg S W wr)) (fun i _=>n - (intOf i).toNat)
 case atStart=>exact ⟨0,Nat.zero_le _,rfl,⟨by simpa using H0.out⟩,⟨Chg.refl _ _⟩⟩
 case round =>
  obtain ⟨k,hk,rfl,HI,HC⟩:=hrel
  by_cases hlt:k<n
  · have t0:decide ((k:Int)<(n:Int))=true:=by simp;omega
    have c0:=(HKD.out wr HC.out).cell 0 rfl
    have hr:=Bx.mk (HR.out wr HC.out (k:Int))
    have hsu:=Bx.mk (rdsP_succ d (show k<d.p.length by rw [←Hn.out];exact hlt))
    have hxm:=Bx.mk (List.mem_of_getElem? (rdsP_at d (show k<d.p.length by rw [←Hn.out];exact hlt)))
    generalize hx:d.read (k:Int)=x at *
    have hlen:((rdsP d).take k).length<d.p.length:=by rw [List.length_take,rdsP_len,←Hn.out];omega
    have HLn:=Bx.mk hlen
    clear hlen hx
    gi_upto_region 3 with fail
    gi_wp2_with ((try refine ⟨trivial,?_⟩);gi_at_call 48;refine (callsIn_wide.2 hr.out).mono ?_;rintro _ w2 ⟨rfl,hb2⟩;obtain ⟨fn,tmps,assign,body,hy,hYr⟩:=HY.out 3 _ x w2 hxm.out (HJ.out _ _ _ HI.out hb2) HLn.out;replace hYr:=Bx.mk hYr;have HB2:=Bx.mk hb2;clear hb2)
    refine (pg_round hYr.out).mono ?_
    rintro e w3 (⟨rfl,hj,hc⟩ | ⟨rfl,hj⟩)
    · rw [←hsu.out] at hj
      have HJ3:=Bx.mk hj
      have HC3:=Bx.mk ((HC.out.trans (.ofBelow HB2.out S) fun _ _ h=>h).trans hc fun _ _ h=>h)
      clear hj hc hYr hy hr c0 HB2 HI HC hsu HLn
      gi_wp2
      go_roundw
      case rel=>exact ⟨k+1,by omega,by go_num,HJ3,HC3⟩
      case measure=>simp [intOf];omega
    · rw [←hsu.out] at hj
      have HJ3:=Bx.mk hj
      clear hj hYr hy hr c0 HB2 HI HC hsu HLn
      gi_wp2
      exact ⟨rfl,_,results_none rfl _ _ _,⟨_,rfl⟩,.inr ⟨_,List.take_prefix _ _,HJ3.out⟩⟩
  · obtain rfl:k=n:=by omega
    have t0:decide ((k:Int)<(k:Int))=false:=by simp
    have hall:(rdsP d).take k=rdsP d:=by rw [List.take_of_length_le (by rw [rdsP_len,←Hn.out];omega)]
    rw [hall] at HI
    clear hall
    gi_wp2
    go_end0
    exact ⟨⟨_,rfl⟩,.inl HI.out⟩
theorem all_any (dp:Nat) (w:World):Calls Tryd.prog 39 #[.pointer (some ⟨dp,0,none⟩)] w fun e w'=>e = .returned (.func (.func 63) #[] #[.pointer (some ⟨w.heap.size,0,none⟩)])∧w'=w.alloc (.cells #[.pointer (some ⟨dp,0,none⟩)] 24):=by
 go_enter Tryd.func39,Tryd.ntmps39
 go_wp2_with fail
 go_ret
 exact ⟨rfl,rfl⟩
theorem all_stops (bd dp g mb cap m:Nat) (d:Dk) (S:Nat→Prop) (hS : ∀ k,In3 dp g mb k → ¬S k) (hSb : ¬S bd) (n:Nat) (w:World) (kd:Bk w bd #[.pointer (some ⟨dp,0,none⟩)] 24) (hd:DkIs w dp g mb cap m d) :
 SeqStopsK Fence.wide n Tryd.prog 63 #[.pointer (some ⟨bd,0,none⟩)] (fun x:{ x // x∈rdsP d }=>rdArgs x.1) (Chg S) (fun xs=>xs.map (·.1)=rdsP d) (fun xs=>xs.map (·.1) <+: rdsP d) d.p.length w:=by
 intro l J Jx W hW hJ hJx hY h0
 refine callsIn_wide.2 ?_
 refine (all1_any l bd dp g mb cap m d S hS hSb (fun s W' => ∃ ys:List { x // x∈rdsP d },ys.map (·.1)=s∧J ys W') (fun s W' => ∃ ys:List { x // x∈rdsP d },ys.map (·.1)=s∧Jx ys W') ?_ W (kd.later hW) (hd.later hW) ?_ ⟨[],rfl,h0⟩).mono ?_
 · rintro s A B ⟨ys,hy,hj⟩ hb
   exact ⟨ys,hy,hJ _ _ _ none hj (grown_of_below hb) (fun r e=>by cases e)⟩
 · rintro m' pre x W1 hx ⟨ys,rfl,hj⟩ hl
   rw [List.length_map] at hl
   refine YieldAt.mono (pg_yield m' (hY ys ⟨x,hx⟩ W1 hj hl)) ?_
   rintro e W' (⟨rfl,h1,h2⟩ | ⟨rfl,h1⟩)
   · exact .inl ⟨rfl,⟨_,by simp,h1⟩,h2⟩
   · exact .inr ⟨rfl,⟨_,by simp,h1⟩⟩
 · rintro e W' ⟨hv,⟨ys,hy,hj⟩ | ⟨q,hq,ys,rfl,hj⟩⟩
   · exact ⟨hv,.inl ⟨ys,hy,hj⟩⟩
   · exact ⟨hv,.inr ⟨ys,hq,hj⟩⟩
end
section
open Go.Sort Go.RowKit
theorem pg_upon_in {P:Program} {o:Oper} {a:Act} {next:Act→World→Prop} {Q:Exit→Act→World→Prop} (l n:Nat) {r:Result Next} (h:o.upon P a next Q r):o.uponIn (Fence.wide.inRound l) n P a next Q r:=by
 cases r with
 | ok x w' =>
   cases x with
   | value v=>exact h
   | skip=>exact h
   | defer d=>exact h
   | enter f args=>exact ⟨fun e=>(by cases e),(callsIn_wide.2 h).inRound l⟩
   | row row args=>exact ⟨fun e=>(by cases e),fun c cs _=>by
    obtain ⟨v,w2,r,s⟩:=h c cs
    exact ⟨v,w2,r,stepsIn_wide.2 s⟩⟩
   | round l f tmps assign body=>exact h.elim
   | _=>exact h.elim
 | halt x w' =>
   cases x with
   | panic v=>exact h
   | _=>exact h.elim
section
variable {P:Program} {Q:Exit→Act→World→Prop}
theorem pg_wpOp_in (l n:Nat) {ops:Array Oper} (hnd : ∀ (i:Nat) (o:Oper) (c:Call),ops[i]? = some o→o.op ≠ .defer c) (hLo : ¬LetsOut Q) {i:Nat} {K:Act→World→Prop} {a:Act} {w:World} (h:wpOp P ops Q i K a w):wpOpIn (Fence.wide.inRound l) n P ops Q i K a w:=by
 unfold wpOp at h
 unfold wpOpIn
 split
 · rename_i ho;simpa only [ho] using h
 · rename_i o ho
   simp only [ho] at h
   split
   · rename_i hw
     rw [if_pos hw] at h
     rcases h with h | h
     · refine ⟨fun f _=>trivial,?_⟩
       rw [Fence.inRound_round,Oper.semAt_some l _ _ (fun c=>hnd i o c ho)]
       exact pg_upon_in l n h
     · exact absurd h.2 hLo
   · rename_i hw
     rw [if_neg hw] at h
     exact ⟨fun f _=>trivial,h⟩
theorem pg_wpAny_in (l n:Nat) {ops:Array Oper} {md:Region.Mode} (hnd : ∀ (i:Nat) (o:Oper) (c:Call),ops[i]? = some o→o.op ≠ .defer c) (hLo : ¬LetsOut Q) : ∀ (fuel:Nat) (listed:Array Bool) (a:Act) (w:World),wpAny P md ops Q fuel listed a w→wpAnyIn (Fence.wide.inRound l) n P md ops Q fuel listed a w
 | 0,_,_,_,h=>h
 | fuel+1,listed,a,w,h=>⟨h.1,fun i hi=>wpOpIn_mono (fun a' w' h'=>pg_wpAny_in l n hnd hLo fuel _ a' w' h') (pg_wpOp_in l n hnd hLo (h.2 i hi))⟩
def pg_noDefer (l:List Oper):Bool:=l.all fun o=>match o.op with | .defer _=>false | _=>true
theorem pg_noDefer_spec {l:List Oper} (h:pg_noDefer l=true) (i:Nat) (o:Oper) (c:Call) (ho:l.toArray[i]? = some o):o.op ≠ .defer c:=by
 intro e
 have hm:o∈l:=List.mem_of_getElem? (by simpa using ho)
 have:=List.all_eq_true.1 h o hm
 rw [e] at this
 cases this
theorem wpIn_region_relM {l:List Oper} {W:World} {a:Act} {id:Nat} (lo k:Nat) (n:Nat) (R:Nat→Value→World→Prop) (hm:P.follows .mixedOrders=true) (hB:headRT l n=true) (hnd:pg_noDefer l=true) (hLo : ¬LetsOut Q) (m:Nat) (hdm:dstB l m=true) (ham:a.tmps.size=m)
 (hf : ∀ i,i<n→Firm (R i))
 (hop : ∀ i o,i<n→l[i]? = some o → ∀ (ρ:Operand→Value) w,Below W.heap.size W w→(∀ v,ρ (.const v)=v)→(∀ g,ρ (.global g) = .pointer (some ⟨g,0,none⟩))→(∀ f,ρ (.func f) = .func (.func f) #[] #[]) →
  (∀ d,.tmp d∈o.op.operands→Known l n R a d (ρ (.tmp d)) w)→relUpon P w (R i) ((execOp ρ o).run P w))
 (h : ∀ (vs:List Value) w',vs.length=n→Below W.heap.size W w'→(∀ i v,vs[i]? = some v→R i v w')→wpList P l.toArray Q (l.drop n) (puts (((l.take n).map (·.dst)).zip vs) a) w'):(Code.region id l.toArray true).wpIn (Fence.wide.inRound lo) k P Q a W :=
 wpIn_region_any hm (pg_wpAny_in lo k (pg_noDefer_spec hnd) hLo _ _ _ _ (any_relT n R hB m hdm ham hf hop h))
end
end
section
open Go.RowKit Go.Sort Go.Maps
def SlP (w:World) (a:Option Addr) (l:List (Int × List Int)):Prop := ∀ i x,l[i]? = some x → ∃ b off,a=some ⟨b,off,none⟩∧w.cell? ⟨b,off+i * 2,none⟩=some (.int .i64 x.1)∧w.cell? ⟨b,off+i * 2+1,none⟩=some (.string (strOfNums x.2))
theorem SlP.below {w w':World} {a:Option Addr} {l:List (Int × List Int)} (h:SlP w a l) (hb:Below w.heap.size w w'):SlP w' a l:=fun i x hx=>by
 obtain ⟨b,off,e,h1,h2⟩:=h i x hx
 exact ⟨b,off,e,cell_later hb h1,cell_later hb h2⟩
def okTo (m:Int) (l:List (Int × List Int)) (k:Nat):Prop := ∀ i x,i<k→l[i]? = some x→0≤x.1∧x.1<m∧x.2.length=116∧(0<i → ∀ y,l[i - 1]? = some y→y.1<x.1)
open Classical in
noncomputable def okV (m:Int) (l:List (Int × List Int)):Int:=if okTo m l l.length then 0 else 1
theorem okV_yes {m:Int} {l:List (Int × List Int)} (h:okTo m l l.length):okV m l=0:=by unfold okV;rw [if_pos h]
theorem okV_no {m:Int} {l:List (Int × List Int)} (h : ¬okTo m l l.length):okV m l=1:=by unfold okV;rw [if_neg h]
noncomputable def chkV (cl:Bool) (N:Nat) (m:Int) (l:List (Int × List Int)):Int :=
 if cl=true then 20 else if 16<l.length∨1073741824≤N then 2 else if l.length=0 then 1 else okV m l
theorem okTo.zero (m:Int) (l:List (Int × List Int)):okTo m l 0:=fun i x hi=>by omega
theorem okTo.succ {m:Int} {l:List (Int × List Int)} {k:Nat} (h:okTo m l k) {x:Int × List Int} (hx:l[k]? = some x) (h1:0≤x.1∧x.1<m∧x.2.length=116∧(0<k → ∀ y,l[k - 1]? = some y→y.1<x.1)):okTo m l (k+1):=fun i y hi hy=>by
 by_cases e:i=k
 · subst e;rw [hx] at hy;obtain rfl:=Option.some.inj hy;exact h1
 · exact h i y (by omega) hy
set_option maxRecDepth 100000 in
set_option maxHeartbeats 4000000 in
theorem pcheck_any (w:World) (pp dp N g mb cap m:Nat) (bv:Value) (cl:Bool) (d:Dk) (hp:PS w pp dp N bv cl) (h:DkIs w dp g mb cap m d) (a:Option Addr) (c:Nat) (l:List (Int × List Int)) (hl:l.length≤1000) (hs:SlP w a l) (hw64 : ∀ x∈l,(-9223372036854775808≤x.1∧x.1≤9223372036854775807)∧x.2.length≤10000) :
 Calls Tryd.prog 45 #[.pointer (some ⟨pp,0,none⟩),.slice a l.length c] w fun e w'=>e = .returned (.int .i64 (chkV cl N ((d.p.length:Int) - 17) l))∧Below w.heap.size w w':=by
 have c1:=hp.cell 1 rfl
 have c3:=hp.cell 3 rfl
 have hlen:=Bx.mk fun W (hb:Below w.heap.size w W)=>((plen_any W pp dp N g mb cap m bv cl d (hp.later hb) (h.later hb)).mono fun e w' h=>(⟨h.1,h.2 ▸ Below.refl _ _⟩:e = .returned (.int .i64 ((d.p.length:Int) - 17))∧Below W.heap.size W w'))
 clear hp h
 generalize (d.p.length:Int) - 17=md at *
 unfold chkV
 cases cl with
 | true =>
   rw [if_pos rfl]
   go_enter Tryd.func45,Tryd.ntmps45
   go_wp2_with fail
   go_ret
   exact ⟨rfl,Below.refl _ _⟩
 | false =>
   rw [if_neg (by decide)]
   obtain ⟨n,hn⟩ : ∃ n,n=l.length:=⟨_,rfl⟩
   have Hn:=Bx.mk hn
   rw [←hn] at hl ⊢
   by_cases h1:16<n
   · have t1:decide ((n:Int) > 16)=true:=by simp;omega
     have t1b:decide (16<n)=true:=by simpa using h1
     rw [if_pos (.inl h1)]
     clear hs hn
     go_enter Tryd.func45,Tryd.ntmps45
     go_wp2_with fail
     go_ret
     exact ⟨rfl,Below.refl _ _⟩
   · have t1:decide ((n:Int) > 16)=false:=by simp;omega
     have t1b:decide (16<n)=false:=by simp;omega
     by_cases h2:1073741824≤N
     · have t2:decide ((N:Int) ≥ 1073741824)=true:=by simp;omega
       have t2b:decide (1073741824≤N)=true:=by simpa using h2
       rw [if_pos (.inr h2)]
       clear hs hn
       go_enter Tryd.func45,Tryd.ntmps45
       go_wp2_with fail
       go_ret
       exact ⟨rfl,Below.refl _ _⟩
     · have t2:decide ((N:Int) ≥ 1073741824)=false:=by simp;omega
       have t2b:decide (1073741824≤N)=false:=by simp;omega
       rw [if_neg (by omega)]
       by_cases h3:n=0
       · have t3:((n:Int) == 0)=true:=by simp [h3]
         rw [if_pos h3]
         clear hs hn
         go_enter Tryd.func45,Tryd.ntmps45
         go_wp2_with fail
         go_ret
         exact ⟨rfl,Below.refl _ _⟩
       · have t3:((n:Int) == 0)=false:=by simp;omega
         have t3b : ¬(n:Int)=0:=by omega
         rw [if_neg h3]
         have HSl:=Bx.mk hs
         have H64:=Bx.mk hw64
         have HR0:Bx (okTo md l n→okV md l=0):=⟨fun h=>okV_yes (by rw [←Hn.out];exact h)⟩
         have HR1:Bx (¬okTo md l n→okV md l=1):=⟨fun h=>okV_no (by rw [←Hn.out];exact h)⟩
         clear hs hn hw64 h1 h2 h3
         go_enter Tryd.func45,Tryd.ntmps45
         go_wp2_with fail
         clear c1 c3 t1 t1b t2 t2b t3 t3b
         go_loopw [29] (fun v29 wr => ∃ k:Nat,k≤n∧v29 = .int .i64 k∧Bx (okTo md l k)∧Bx (Below w.heap.size w wr)) (fun i _=>n - (intOf i).toNat)
         case atStart=>exact ⟨0,Nat.zero_le _,rfl,⟨okTo.zero _ _⟩,⟨Below.refl _ _⟩⟩
         case round =>
          obtain ⟨k,hk,rfl,HO,HW⟩:=hrel
          by_cases hlt:k<n
          · have t0:decide ((k:Int)<(n:Int))=true:=by simp;omega
            obtain ⟨x,hx⟩ : ∃ x,l[k]? = some x:=⟨_,List.getElem?_eq_getElem (by rw [←Hn.out];exact hlt)⟩
            obtain ⟨b,off,rfl,hc1,hc2⟩:=HSl.out k x hx
            have z0:=cell_later HW.out hc1
            have z1:=cell_later HW.out hc2
            have h64:=H64.out x (List.mem_of_getElem? hx)
            have HX:=Bx.mk hx
            have b1:(0:Int)≤(k:Int):=by omega
            have b2:(k:Int)<(n:Int):=by omega
            have Hlt:=Bx.mk hlt
            obtain ⟨xp,xt⟩:=x
            simp only at z0 z1 h64
            clear hx hc1 hc2 hlt
            go_upto_region 10 with fail
            clear z0 z1 t0
            generalize hW:World.alloc wr _=W
            have hbW:=bl1 hW
            have KX:Bk W wr.heap.size #[.int .i64 xp,.string (strOfNums xt)] 93:=bk0 hW rfl
            clear hW
            have HBW:=Bx.mk (HW.out.trans (hbW.mono HW.out.size))
            have q0:=Bx.mk fun dk osk=>Calls.regrown_of (hlen.out (grow (redrawn W dk) osk) (HBW.out.trans ((below_regrown W dk osk).mono HBW.out.size)))
            obtain ⟨x0,x1⟩:=KX.r2
            obtain ⟨sz,hsz0⟩ : ∃ n,n=xt.length:=⟨_,rfl⟩
            have hsz:(strOfNums xt).size=sz:=by rw [strOfNums_size,hsz0]
            have Hsz:=Bx.mk hsz0
            have l1:sz≤10000:=by omega
            clear hbW KX hsz0 h64 HW hlen
            generalize strOfNums xt=Sx at *
            have y0:True:=trivial
            by_cases c1:xp<0
            · have n1:decide (xp<0)=true:=by simpa using c1
              have HF:Bx (okV md l=1):=⟨HR1.out fun h=>by have:=(h k _ Hlt.out HX.out).1;simp only at this;omega⟩
              clear c1
              refine wp_region_quiet_below (by kernel_rfl) (by kernel_rfl) ?_
              repeat (first
               | go_big_quiet_step (first | with_reducible exact q0.out _ _)
               | quiet_step (first | with_reducible exact q0.out _ _))
              refine wpQuiet_nil ?_
              rintro _ ⟨⟨dq,osq⟩,rfl⟩
              have hbq:=below_regrown W dq osq
              have HJ:=Bx.mk (HBW.out.trans (hbq.mono HBW.out.size))
              clear hbq x0 x1 y0 q0 hsz
              generalize grow (redrawn W dq) osq=w9 at *
              go_wp2_with fail
              go_ret
              exact ⟨by rw [HF.out];first | rfl | trivial,HJ.out⟩
            · have n1:decide (xp<0)=false:=by simpa using c1
              by_cases c2:md≤xp
              · have n2:decide (xp ≥ md)=true:=by simpa using c2
                have HF:Bx (okV md l=1):=⟨HR1.out fun h=>by have:=(h k _ Hlt.out HX.out).2.1;simp only at this;omega⟩
                clear c1 c2
                refine wp_region_quiet_below (by kernel_rfl) (by kernel_rfl) ?_
                repeat (first
                 | go_big_quiet_step (first | with_reducible exact q0.out _ _)
                 | quiet_step (first | with_reducible exact q0.out _ _))
                refine wpQuiet_nil ?_
                rintro _ ⟨⟨dq,osq⟩,rfl⟩
                have hbq:=below_regrown W dq osq
                have HJ:=Bx.mk (HBW.out.trans (hbq.mono HBW.out.size))
                clear hbq x0 x1 y0 q0 hsz
                generalize grow (redrawn W dq) osq=w9 at *
                go_wp2_with fail
                go_ret
                exact ⟨by rw [HF.out];first | rfl | trivial,HJ.out⟩
              · have n2:decide (xp ≥ md)=false:=by simpa using c2
                by_cases c3:sz=116
                · subst c3
                  have n3:(((116:Nat):Int) != 116)=false:=by decide
                  rcases Nat.eq_zero_or_pos k with c4 | c4
                  · have n4:decide ((k:Int) > 0)=false:=by simp;omega
                    have n4b:decide (0<k)=false:=by simp;omega
                    have HG:Bx (okTo md l (k+1)):=⟨HO.out.succ HX.out ⟨by simp only;omega,by simp only;omega,Hsz.out.symm,fun h=>absurd h (by omega)⟩⟩
                    clear c1 c2
                    refine wp_region_quiet_below (by kernel_rfl) (by kernel_rfl) ?_
                    repeat (first
                     | go_big_quiet_step (first | with_reducible exact q0.out _ _)
                     | quiet_step (first | with_reducible exact q0.out _ _))
                    refine wpQuiet_nil ?_
                    rintro _ ⟨⟨dq,osq⟩,rfl⟩
                    have hbq:=below_regrown W dq osq
                    have HJ:=Bx.mk (HBW.out.trans (hbq.mono HBW.out.size))
                    clear hbq x0 x1 y0 q0 hsz
                    generalize grow (redrawn W dq) osq=w9 at *
                    go_wp2_with fail
                    go_roundw
                    case rel=>exact ⟨k+1,by have:=Hlt.out;omega,by go_num,HG,HJ⟩
                    case measure=>have:=Hlt.out;simp [intOf];omega
                  · have n4:decide ((k:Int) > 0)=true:=by simp;omega
                    have n4b:decide (0<k)=true:=by simp;omega
                    obtain ⟨jm,hjm⟩ : ∃ n:Nat,n=k - 1:=⟨_,rfl⟩
                    have e6:IntKind.i64.wrap ((k:Int) - 1)=(jm:Int):=by rw [show (k:Int) - 1=(jm:Int) by omega];exact IntWalk.i64_in _ (by omega)
                    obtain ⟨y,hy⟩ : ∃ y,l[jm]? = some y:=⟨_,List.getElem?_eq_getElem (by rw [←Hn.out];have:=Hlt.out;omega)⟩
                    obtain ⟨b',off',e,hy1,-⟩:=HSl.out jm y hy
                    simp only [Option.some.injEq,Addr.mk.injEq,and_true] at e
                    obtain ⟨rfl,rfl⟩:=e
                    have HY:=Bx.mk (show l[k - 1]? = some y by rw [←hjm];exact hy)
                    obtain ⟨yp,yt⟩:=y
                    simp only at hy1
                    clear y0
                    have y0 : ∀ dk osk,(grow (redrawn W dk) osk).cell? ⟨b,off+jm * 2,none⟩=some (.int .i64 yp):=cell_regrown (cell_later HBW.out hy1)
                    have b3:(0:Int)≤(jm:Int):=by omega
                    have b4:(jm:Int)<(n:Int):=by omega
                    have Hk0:=Bx.mk c4
                    clear hy hy1 hjm c4
                    by_cases c5:xp≤yp
                    · have n5:decide (yp ≥ xp)=true:=by simpa using c5
                      have HF:Bx (okV md l=1):=⟨HR1.out fun h=>by have:=(h k _ Hlt.out HX.out).2.2.2 Hk0.out _ HY.out;simp only at this;omega⟩
                      clear c1 c2 c5
                      refine wp_region_quiet_below (by kernel_rfl) (by kernel_rfl) ?_
                      repeat (first
                       | go_big_quiet_step (first | with_reducible exact q0.out _ _)
                       | quiet_step (first | with_reducible exact q0.out _ _))
                      refine wpQuiet_nil ?_
                      rintro _ ⟨⟨dq,osq⟩,rfl⟩
                      have hbq:=below_regrown W dq osq
                      have HJ:=Bx.mk (HBW.out.trans (hbq.mono HBW.out.size))
                      clear hbq x0 x1 y0 q0 hsz
                      generalize grow (redrawn W dq) osq=w9 at *
                      go_wp2_with fail
                      go_ret
                      exact ⟨by rw [HF.out];first | rfl | trivial,HJ.out⟩
                    · have n5:decide (yp ≥ xp)=false:=by simpa using c5
                      have HG:Bx (okTo md l (k+1)):=⟨HO.out.succ HX.out ⟨by simp only;omega,by simp only;omega,Hsz.out.symm,fun _ z hz=>by rw [HY.out] at hz;obtain rfl:=Option.some.inj hz;simp only;omega⟩⟩
                      clear c1 c2 c5
                      refine wp_region_quiet_below (by kernel_rfl) (by kernel_rfl) ?_
                      repeat (first
                       | go_big_quiet_step (first | with_reducible exact q0.out _ _)
                       | quiet_step (first | with_reducible exact q0.out _ _))
                      refine wpQuiet_nil ?_
                      rintro _ ⟨⟨dq,osq⟩,rfl⟩
                      have hbq:=below_regrown W dq osq
                      have HJ:=Bx.mk (HBW.out.trans (hbq.mono HBW.out.size))
                      clear hbq x0 x1 y0 q0 hsz
                      generalize grow (redrawn W dq) osq=w9 at *
                      go_wp2_with fail
                      go_roundw
                      case rel=>exact ⟨k+1,by have:=Hlt.out;omega,by go_num,HG,HJ⟩
                      case measure=>have:=Hlt.out;simp [intOf];omega
                · have n3:((sz:Int) != 116)=true:=by simp;omega
                  have HF:Bx (okV md l=1):=⟨HR1.out fun h=>by have:=(h k _ Hlt.out HX.out).2.2.1;simp only at this;have:=Hsz.out;omega⟩
                  clear c1 c2 c3
                  refine wp_region_quiet_below (by kernel_rfl) (by kernel_rfl) ?_
                  repeat (first
                   | go_big_quiet_step (first | with_reducible exact q0.out _ _)
                   | quiet_step (first | with_reducible exact q0.out _ _))
                  refine wpQuiet_nil ?_
                  rintro _ ⟨⟨dq,osq⟩,rfl⟩
                  have hbq:=below_regrown W dq osq
                  have HJ:=Bx.mk (HBW.out.trans (hbq.mono HBW.out.size))
                  clear hbq x0 x1 y0 q0 hsz
                  generalize grow (redrawn W dq) osq=w9 at *
                  go_wp2_with fail
                  go_ret
                  exact ⟨by rw [HF.out];first | rfl | trivial,HJ.out⟩
          · obtain rfl:k=n:=by omega
            have t0:decide ((k:Int)<(k:Int))=false:=by simp
            have hr:=HR0.out HO.out
            go_wp2_with fail
            go_ret
            exact ⟨by rw [hr];rfl,HW.out⟩
end
section
def Dk.upTo (d:Dk) (ops:List DOp) (k:Nat):Dk:=(ops.take k).foldl (fun d o=>(d.op o).1) d
theorem Dk.upTo_succ {d:Dk} {ops:List DOp} {k:Nat} {o:DOp} (h:ops[k]? = some o):d.upTo ops (k+1)=((d.upTo ops k).op o).1:=by
 have hk:k<ops.length:=(List.getElem?_eq_some_iff.1 h).1
 unfold Dk.upTo
 rw [List.take_succ_eq_append_getElem hk,List.foldl_append]
 rw [List.getElem?_eq_getElem hk] at h
 rw [Option.some.inj h];rfl
def Dk.fine (d:Dk) (ops:List DOp) (k:Nat):Prop := ∀ j o,j<k→ops[j]? = some o→((d.upTo ops j).op o).2=0
theorem Dk.fine_zero (d:Dk) (ops:List DOp):d.fine ops 0:=fun j o h=>absurd h (by omega)
theorem Dk.fine_succ {d:Dk} {ops:List DOp} {k:Nat} {o:DOp} (h:d.fine ops k) (ho:ops[k]? = some o) (h0:((d.upTo ops k).op o).2=0):d.fine ops (k+1):=fun j p hj hp=>by
 by_cases e:j=k
 · subst e;rw [ho] at hp;obtain rfl:=Option.some.inj hp;exact h0
 · exact h j p (by omega) hp
theorem Dk.fine_tail {d:Dk} {o:DOp} {ops:List DOp} {k:Nat} (h:d.fine (o::ops) (k+1)):(d.op o).2=0∧(d.op o).1.fine ops k :=
 ⟨h 0 o (by omega) rfl,fun j p hj hp=>h (j+1) p (by omega) hp⟩
theorem Dk.run_all : ∀ {ops:List DOp} {d:Dk},d.fine ops ops.length→d.run ops=(d.upTo ops ops.length,0)
 | [],_,_=>rfl
 | o :: ops, d, h => by
   obtain ⟨h0,h1⟩:=Dk.fine_tail h
   unfold Dk.run
   rw [if_pos h0,Dk.run_all h1];rfl
theorem Dk.run_fail : ∀ {ops:List DOp} {d:Dk} {k:Nat} {o:DOp},d.fine ops k→ops[k]? = some o→((d.upTo ops k).op o).2 ≠ 0→d.run ops=(d.upTo ops k).op o
 | [],_,_,_,_,h,_=>by simp at h
 | p :: ops, d, 0, o, _, h, hn => by
   obtain rfl:=Option.some.inj h
   unfold Dk.run
   exact if_neg (show ¬(d.op p).2=0 from hn)
 | p :: ops, d, k + 1, o, hf, h, hn => by
   obtain ⟨h0,h1⟩:=Dk.fine_tail hf
   unfold Dk.run
   rw [if_pos h0,Dk.run_fail h1 h hn];rfl
end
end Go.Proofs.YtajhkncolbgkbaaDoor
