/- Cvq, RlQ: joined by program, for one claim. -/
import Derived.Test.YtfcbajmjaifjlaaGreatM41
import Derived.Test.YtfcbajmjaifjlaaGreatM31
import Derived.Lib.QuietBelow
set_option linter.unusedVariables false
set_option linter.unusedSimpArgs false
namespace Go.Proofs.YtfcbajmjaifjlaaGreat
section
open Go.RowKit Go.Sort Go.Maps
open Oct
theorem below_put {n D:Nat} {w X:World} {o o':Obj} (h:Below n w X) (hD:n≤D) (hK:X.heap[D]? = some o) (hc:o.isCells=false):Below n w (X.putObj D o'):=by
 have hk:=KpE.putObj (E:=fun _=>False) (n₀:=n) X D o o' hD hK hc
 refine ⟨hk.os.trans h.os,hk.tape.trans h.tape,hk.output.trans h.output,Nat.le_trans h.size hk.size,fun k hlt=>?_⟩
 rw [←h.block k hlt]
 have hle:=h.size
 cases e:X.heap[k]? with
 | none =>
   have hs:(X.putObj D o').heap.size=X.heap.size:=by simp [World.putObj]
   rw [Array.getElem?_eq_none_iff] at e ⊢
   omega
 | some b=>exact hk.blk k b e (fun h=>h) (.inl hlt)
open Classical in
noncomputable def cvN (p:Pt) (L:List (Pt × Nat × Tr)):Int:=wrap64 (((L.map fun x=>if Tr.InC x.2.1 x.1 p then 1 else 0).sum:Nat):Int)
def cvC (L:List (Pt × Nat × Tr)):Int:=wrap64 (((L.map fun x=>8 ^ (x.2.1+2)).sum:Nat):Int)
theorem cvC_snoc (L:List (Pt × Nat × Tr)) (x:Pt × Nat × Tr):IntKind.i64.wrap (cvC L+((8 ^ (x.2.1+2):Nat):Int))=cvC (L++[x]):=by
 unfold cvC
 rw [List.map_append,List.sum_append,IntWalk.i64_left,wrap_add]
 simp
theorem cvN_snoc (p:Pt) (L:List (Pt × Nat × Tr)) (x:Pt × Nat × Tr) (ha:Tr.Al x.2.1 x.1):cvN p (L++[x])=if inD p (x.1,x.2.1)=true then wrap64 (cvN p L+1) else cvN p L:=by
 unfold cvN
 rw [List.map_append,List.sum_append]
 simp only [List.map_cons,List.map_nil,List.sum_cons,List.sum_nil,Nat.add_zero]
 have h:=inB_inC (n:=x.2.1) (ax:=x.1.x) (ay:=x.1.y) (az:=x.1.z) rfl (show Tr.Al x.2.1 ⟨x.1.x,x.1.y,x.1.z⟩ from ha) (p:=p)
 by_cases e:inD p (x.1,x.2.1)=true
 · rw [if_pos e,if_pos (h.1 e),wrap_add];simp
 · rw [if_neg e,if_neg (fun h'=>e (h.2 h'))];simp
theorem cvN_nil (p:Pt):cvN p []=0:=by unfold cvN;rw [List.map_nil,List.sum_nil];simp only [wrap64,IntKind.wrap];rfl
theorem cvC_nil:cvC []=0:=by unfold cvC;rw [List.map_nil,List.sum_nil];simp only [wrap64,IntKind.wrap];rfl
theorem leaf_brick {n:Nat} {F:Pt→Int} (hF:FnC n F) {q p:Pt} {ys:List Int} (hx:(q,0,Tr.brick ys)∈leavesT n ⟨0,0,0⟩ (trF n F)) (ha:Tr.Al 0 q) (hp:inD p (q,0)=true):ys.length=64∧ys[Tr.idx p]? = some (F p)∧indexB ⟨⟨q.x,q.y,q.z⟩,⟨q.x+2 ^ (0+2),q.y+2 ^ (0+2),q.z+2 ^ (0+2)⟩⟩ p=(Tr.idx p:Int):=by
 have hc:=(inB_inC (n:=0) (ax:=q.x) (ay:=q.y) (az:=q.z) rfl (show Tr.Al 0 ⟨q.x,q.y,q.z⟩ from ha) (p:=p)).1 hp
 have h64:ys.length=64:=by
  rcases leaves_ok hF.range _ hx with ⟨d,hd,_⟩ | ⟨_,l,hl,h1,_⟩
  · cases hd
  · cases hl;exact h1
 have hg:=(leaf_get hx hc).2 ys rfl rfl
 have hlt:=Tr.idx_lt p
 refine ⟨h64,?_,?_⟩
 · rw [←hg,List.getD_eq_getElem?_getD]
   rw [List.getElem?_eq_getElem (by omega)]
   rfl
 · have hi:inB p ⟨⟨q.x,q.y,q.z⟩,⟨q.x+2 ^ (0+2),q.y+2 ^ (0+2),q.z+2 ^ (0+2)⟩⟩=true:=hp
   obtain ⟨a1,a2,a3⟩:=ha
   have e4:(2:Int) ^ (0+2)=4:=rfl
   rw [e4] at hi a1 a2 a3 ⊢
   have hi2:=of_decide_eq_true hi
   simp only [] at hi2 a1 a2 a3
   have he:emptyB ⟨⟨q.x,q.y,q.z⟩,⟨q.x+4,q.y+4,q.z+4⟩⟩=false:=by
    unfold emptyB inB
    rw [Bool.not_eq_false']
    exact decide_eq_true (by simp only [];omega)
   unfold indexB
   rw [if_pos hi]
   unfold sizeB Tr.idx
   rw [if_neg (by rw [he];decide)]
   simp only [Pt.sub]
   omega
def cvS (L:List (Pt × Nat × Tr)):Nat→Int
 | 0=>0
 | k+1=>IntKind.i64.wrap (cvS L k+cntS (k:Int) L)
theorem cvS_eq (L:List (Pt × Nat × Tr)) : ∀ k,cvS L k=wrap64 ((((List.range k).map fun c:Nat=>(L.map (cntL (c:Int))).sum).sum:Nat):Int)
 | 0 => by
   rw [List.range_zero,List.map_nil,List.sum_nil]
   show (0:Int)=_
   simp only [wrap64,IntKind.wrap]
   rfl
 | k + 1 => by
   show IntKind.i64.wrap (cvS L k+cntS (k:Int) L)=_
   rw [cvS_eq L k,IntWalk.i64_left,List.range_succ,List.map_append,List.sum_append,wrap_add]
   unfold cntS
   rw [Int.add_comm,wrap_add,Int.add_comm]
   simp
theorem cvS_all {L:List (Pt × Nat × Tr)} (h : ∀ x∈L,LeafOk x):cvS L 256=cvC L:=by
 rw [cvS_eq,leaves_cnt rfl h]
 rfl
theorem cvC_all {n:Nat} (hn:n≤12) (F:Pt→Int):cvC (leavesT n ⟨0,0,0⟩ (trF n F))=((8 ^ (n+2):Nat):Int):=by
 unfold cvC
 rw [leaf_size n _ _ (dep_can F n _)]
 have hp8:(8:Nat) ^ (n+2)≤4398046511104:=Nat.le_trans (Nat.pow_le_pow_right (by decide) (show n+2≤14 by omega)) (by decide)
 generalize (8:Nat) ^ (n+2)=q at hp8
 rw [←IntWalk.i64_left]
 exact IntWalk.i64_in _ (by omega)
theorem cvN_all {n:Nat} (F:Pt→Int) {p:Pt} (hp:inB p (cubeB (2 ^ (n+2)))=true):cvN p (leavesT n ⟨0,0,0⟩ (trF n F))=1:=by
 unfold cvN
 rw [leaf_one p n _ _ (al_zero n) (dep_can F n _),if_pos (inC_of_in hp)]
 simp only [wrap64,IntKind.wrap]
 rfl
theorem shl_eight {n:Nat} (hn:n≤12):IntKind.i64.wrap (2 ^ (3 * ((n:Int)+2)).toNat)=((8 ^ (n+2):Nat):Int):=by
 have hp8:(8:Nat) ^ (n+2)≤4398046511104:=Nat.le_trans (Nat.pow_le_pow_right (by decide) (show n+2≤14 by omega)) (by decide)
 have h8:(8:Nat) ^ (n+2)=2 ^ (3 * (n+2)):=by rw [Nat.pow_mul]
 rw [show (3 * ((n:Int)+2)).toNat=3 * (n+2) by omega]
 have h9:(2:Int) ^ (3 * (n+2))=((8 ^ (n+2):Nat):Int):=by rw [h8,Int.natCast_pow];rfl
 rw [h9]
 exact (fun (q:Nat) (hq:q≤4398046511104)=>IntWalk.i64_in (q:Int) (by omega)) _ hp8
end
section
open Go.Sort Go.RowKit
theorem wpIn_region_quietR {P:Program} {Q:Exit→Act→World→Prop} {l:List Oper} {w:World} {a:Act} {id:Nat} (lo k:Nat) (hm:P.follows .mixedOrders=true) (hB:Region.lexB .any l.toArray=true) (hnd:noDefer l=true) (hLo : ¬LetsOut Q)
 (h:wpQuiet P l.toArray (fun w' => ∃ p:Regrown,w'=grow (redrawn w p.d) p.os) (fun a' => ∀ w',(∃ p:Regrown,w'=grow (redrawn w p.d) p.os)→Q .normal a' w') l a):(Code.region id l.toArray true).wpIn (Fence.wide.inRound lo) k P Q a w:=by
 have hB':=hB
 simp only [Region.lexB,Bool.and_eq_true] at hB'
 have hC:(fun w' => ∃ p:Regrown,w'=grow (redrawn w p.d) p.os) { w with drawn:=w.drawn+1 }:=⟨⟨w.drawn+1,#[]⟩,by rw [grow_empty];rfl⟩
 refine wpIn_region_any hm (wpAny_in lo k (noDefer_spec hnd) hLo _ _ _ _ (wpAny_of_quiet (C:=fun w' => ∃ p:Regrown,w'=grow (redrawn w p.d) p.os) (Q:=fun a' => ∀ w',(∃ p:Regrown,w'=grow (redrawn w p.d) p.os)→Q .normal a' w') (fun _ w' hw' h=>h w' hw') _ _ _ _ hC ?_))
 have:=wpAnyQ_lex (C:=fun w' => ∃ p:Regrown,w'=grow (redrawn w p.d) p.os) (md:=.any) hB'.1 l 0 (Array.replicate l.toArray.size false) a (by simp) (by simpa using hB'.2) h
 simpa using this
end
end Go.Proofs.YtfcbajmjaifjlaaGreat
