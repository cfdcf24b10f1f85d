/- Stl, Inr, Pus, Mem: joined by program, for one claim. -/
import Derived.Test.YtajhkncolbgkbaaDoorM1
import Derived.Test.YtajhkncolbgkbaaDoorM3
import Derived.Test.YtajhkncolbgkbaaDoorM2
import Derived.Deep.MidRow
import Derived.Laws.Tables
import Derived.Maps.OwnSet
import Derived.Deep.QuietTactic
import Derived.Laws.CopyRow
set_option linter.unusedVariables false
set_option linter.unusedSimpArgs false
namespace Go.Proofs.YtajhkncolbgkbaaDoor
section
open Go.RowKit
def Slv (w:World) (a:Option Addr) (vs:List Value):Prop := ∀ i v,vs[i]? = some v → ∃ b off,a=some ⟨b,off,none⟩∧w.cell? ⟨b,off+i,none⟩=some v
theorem Slv.nil (w:World) (a:Option Addr):Slv w a []:=fun i x h=>by simp at h
theorem Slv.below {w w':World} {a:Option Addr} {vs:List Value} (h:Slv w a vs) (hb:Below w.heap.size w w'):Slv w' a vs:=by
 intro i x hx
 obtain ⟨b,off,rfl,hc⟩:=h i x hx
 exact ⟨b,off,rfl,cell_later hb hc⟩
def Ownv (w:World) (B:Nat) (e:TypeId) (v:Value) (vs:List Value):Prop:=w.ownsRow B e 1 v vs.length vs
theorem Ownv.nil (w:World) (B:Nat) (e:TypeId):Ownv w B e (.slice none 0 0) []:=World.ownsRow_nil w B e 1
theorem Ownv.form {w:World} {B:Nat} {e:TypeId} {v:Value} {vs:List Value} (h:Ownv w B e v vs) : ∃ a cap,v = .slice a vs.length cap∧Slv w a vs:=by
 rcases h.2 with ⟨rfl,hn⟩ | ⟨g,cap,cur,rfl,hb,hg,hnc,hcm,hcs,ht⟩
 · have hx:vs=[]:=List.eq_nil_of_length_eq_zero hn
   subst hx
   exact ⟨none,0,rfl,Slv.nil _ _⟩
 · refine ⟨_,cap,rfl,fun i x hx=>⟨g,0,rfl,?_⟩⟩
   have hi:i<vs.length:=(List.getElem?_eq_some_iff.1 hx).1
   have hcell:w.cell? ⟨g,i,none⟩=cur[i]? := by simp [World.cell?,hg]
   rw [Nat.zero_add,hcell]
   rw [←ht,List.getElem?_take,if_pos (by omega)] at hx
   simpa using hx
theorem Ownv.form1 {w:World} {B:Nat} {e:TypeId} {v:Value} {vs:List Value} (h:Ownv w B e v vs) (hn:0<vs.length) : ∃ g cap,v = .slice (some ⟨g,0,none⟩) vs.length cap∧Slv w (some ⟨g,0,none⟩) vs∧B≤g∧g<w.heap.size:=by
 obtain ⟨a,cap,he,hs⟩:=h.form
 rcases h.2 with ⟨_,hz⟩ | ⟨g,cap',cur,hv,hb,hg,_⟩
 · omega
 · rw [hv] at he
   injection he with h1 h2 h3
   exact ⟨g,cap',hv,by rw [h1];exact hs,hb,(Array.getElem?_eq_some_iff.1 hg).1⟩
theorem Slv.grown {w w':World} {g off:Nat} {vs:List Value} {row:Option Nat} (h:Slv w (some ⟨g,off,none⟩) vs) (hg:w.grownBy w' row) (hne:row ≠ some g):Slv w' (some ⟨g,off,none⟩) vs:=by
 intro i x hx
 obtain ⟨b,o,he,hc⟩:=h i x hx
 simp only [Option.some.injEq,Addr.mk.injEq,and_true] at he
 obtain ⟨rfl,rfl⟩:=he
 refine ⟨_,_,rfl,?_⟩
 have hlt:=World.block_lt_of_cell? w _ hc
 rw [World.cell?_of_block (hg.block _ hlt (fun e=>hne e.symm))];exact hc
theorem Ownv.sl {w:World} {B:Nat} {e:TypeId} {a:Option Addr} {n c:Nat} {vs:List Value} (h:Ownv w B e (.slice a n c) vs):Slv w a vs:=by
 obtain ⟨a',c',he,hs⟩:=h.form
 injection he with h1 h2 h3
 subst h1;exact hs
theorem Ownv.lt {w:World} {B:Nat} {e:TypeId} {v:Value} {vs:List Value} (h:Ownv w B e v vs) : ∀ g,v.ownBlock=some g→B≤g∧g<w.heap.size:=World.ownsRow.lt h
theorem Ownv.below {w w':World} {B:Nat} {e:TypeId} {v:Value} {vs:List Value} (h:Ownv w B e v vs) (hb:Below w.heap.size w w'):Ownv w' B e v vs :=
 World.ownsRow.kept (row:=none) h ⟨hb.os,hb.tape,hb.output,hb.size,fun i hi _=>hb.block i hi⟩ (by cases v.ownBlock <;> simp)
theorem Ownv.alloc {w:World} {B:Nat} {e:TypeId} {v:Value} {vs:List Value} (h:Ownv w B e v vs) (o:Obj):Ownv (w.alloc o) B e v vs:=World.ownsRow.alloc h o
theorem Ownv.base {w:World} {B B':Nat} {e:TypeId} {v:Value} {vs:List Value} (h:Ownv w B e v vs) (hB:B'≤B):Ownv w B' e v vs:=by
 refine ⟨h.1,h.2.imp id ?_⟩
 rintro ⟨g,cap,cur,h1,h2,h3⟩
 exact ⟨g,cap,cur,h1,Nat.le_trans hB h2,h3⟩
theorem Ownv.grown {w w':World} {B:Nat} {e:TypeId} {v:Value} {vs:List Value} (h:Ownv w B e v vs) {row:Option Nat} (hg:w.grownBy w' row) (hne:v.ownBlock=none∨v.ownBlock ≠ row):Ownv w' B e v vs:=World.ownsRow.kept h hg hne
theorem wpList_append_val {P:Program} {w:World} {ops:Array Oper} {rest:List Oper} {o:Oper} {a:Act} {Q:Exit→Act→World→Prop} (hgd:o.guard=none) (s x:Operand) (t:TypeId)
 (ho:o.op = .call { callee:=.builtin .append,args:=#[s,x],argTypes:=#[t,t] })
 (e:TypeId) (z:Value) (bytes:Nat) (hbz:bytes≤24) (ht:P.underlying t=some (.slice e))
 (hi:(P.info? e).map (fun i=>(i.zero,i.size,i.bytes))=some (some z,1,bytes)) (hzs:z.cells.size=1)
 (B:Nat) (v:Value) (vs:List Value) (hs:a.eval s=v) (hown:Ownv w B e v vs) (u:Value) (hu1:u.oneCell'=true)
 (ad:Addr) (c:Nat) (hx:a.eval x = .slice (some ad) 1 c) (hcell:w.cell? ad=some u) (hlen:vs.length≤1000000000) (hbase:B≤w.heap.size)
 (h : ∀ v' w',Ownv w' B e v' (vs++[u])→w.grownBy w' v.ownBlock→(v'.ownBlock=v.ownBlock∨v'.ownBlock=some w.heap.size)→wpList P ops Q rest (a.put o.dst v') w') :
 wpList P ops Q (o::rest) a w:=by
 obtain ⟨i0,hi0,hz0,hz1,hz2⟩:=info_parts hi
 refine wpList_plain hgd fun K hK=>?_
 have hnews : ∀ j u',[u][j]? = some u'→w.cell? (ad.add j)=some u':=by
  intro j u' hu
  match j with
  | 0=>simp at hu;subst hu;simpa [Addr.add] using hcell
  | j+1=>simp at hu
 obtain ⟨v',w',hr,h2,h3,_,h4⟩:=run_append_own_at (P:=P) w B t o.type e i0 z 1 bytes ht hi0 hz0 hz1 hz2 hzs (by omega) v vs.length _ hown ad 1 c [u] rfl hnews (by simpa using hu1)
  (by simp only [maxLen];omega) (by have:(vs.length+1) * bytes≤(vs.length+1) * 24:=Nat.mul_le_mul_left _ hbz;omega) hbase
 unfold Oper.wp execOp
 simp only [ho,resolve,invoke,builtin,Sem.run_bind,Sem.run_pure,Result.andThen_ok,List.map_toArray,List.map_cons,List.map_nil,hs,hx,hr]
 exact hK _ _ (h v' w' (by unfold Ownv;simpa using h2) h3 h4)
def strs (ls:List (List Int)):List Value:=ls.map fun l=>.string (strOfNums l)
theorem strs_length (ls:List (List Int)):(strs ls).length=ls.length:=by unfold strs;rw [List.length_map]
theorem strs_at {ls:List (List Int)} {i:Nat} {l:List Int} (h:ls[i]? = some l):(strs ls)[i]? = some (.string (strOfNums l)):=by unfold strs;rw [List.getElem?_map,h];rfl
theorem strs_snoc (ls:List (List Int)) (l:List Int):strs (ls++[l])=strs ls++[.string (strOfNums l)]:=by unfold strs;rw [List.map_append];rfl
def RowKeeps (w w':World) (v:Value) (n:Nat):Prop := ∀ g,v.ownBlock=some g → ∀ cur e,w.heap[g]? = some (.cells cur e (0,0)) → ∃ cur',w'.heap[g]? = some (.cells cur' e (0,0))∧cur'.size=cur.size∧cur'.toList.take n=cur.toList.take n
structure Added (w w':World) (v v':Value) (n:Nat):Prop where
 grown:w.grownBy w' v.ownBlock
 keeps:RowKeeps w w' v n
 where_:v'.ownBlock=v.ownBlock ∨ ∀ g,v'.ownBlock=some g→w.heap.size≤g
theorem Added.refl (w:World) (v:Value) (n:Nat):Added w w v v n:=⟨⟨rfl,rfl,rfl,Nat.le_refl _,fun _ _ _=>rfl⟩,fun _ _ cur _e h=>⟨cur,h,rfl,rfl⟩,.inl rfl⟩
theorem Added.below {w w1 w':World} {v v':Value} {n:Nat} (h:Added w w1 v v' n) (hb:Below w1.heap.size w1 w'):Added w w' v v' n:=by
 refine ⟨⟨hb.os.trans h.grown.os,hb.tape.trans h.grown.tape,hb.output.trans h.grown.output,Nat.le_trans h.grown.size hb.size,fun k hk hne=>(hb.block k (Nat.lt_of_lt_of_le hk h.grown.size)).trans (h.grown.block k hk hne)⟩,fun g hg cur e hc=>?_,h.where_⟩
 obtain ⟨cur',h1,h2,h3⟩:=h.keeps g hg cur e hc
 exact ⟨cur',(hb.block g (Array.getElem?_eq_some_iff.1 h1).1).trans h1,h2,h3⟩
theorem Added.after {w w1 w':World} {v v':Value} {n:Nat} (hb:Below w.heap.size w w1) (h:Added w1 w' v v' n) (hv : ∀ g,v.ownBlock=some g→g<w.heap.size):Added w w' v v' n:=by
 refine ⟨⟨h.grown.os.trans hb.os,h.grown.tape.trans hb.tape,h.grown.output.trans hb.output,Nat.le_trans hb.size h.grown.size,fun k hk hne=>(h.grown.block k (Nat.lt_of_lt_of_le hk hb.size) hne).trans (hb.block k hk)⟩,fun g hg cur e hc=>?_,?_⟩
 · exact h.keeps g hg cur e ((hb.block g (hv g hg)).trans hc)
 · rcases h.where_ with h1 | h1
   · exact .inl h1
   · exact .inr fun g hg=>Nat.le_trans hb.size (h1 g hg)
theorem Added.trans {w w1 w':World} {v v1 v':Value} {n m:Nat} (h:Added w w1 v v1 n) (h':Added w1 w' v1 v' m) (hnm:n≤m) (hlt : ∀ g,v.ownBlock=some g→g<w.heap.size):Added w w' v v' n:=by
 have hne : ∀ k,k<w.heap.size→some k ≠ v.ownBlock→some k ≠ v1.ownBlock:=fun k hk hne e=>by
  rcases h.where_ with h1 | h1
  · exact hne (by rw [←h1];exact e)
  · have:=h1 k e.symm;omega
 refine ⟨⟨h'.grown.os.trans h.grown.os,h'.grown.tape.trans h.grown.tape,h'.grown.output.trans h.grown.output,Nat.le_trans h.grown.size h'.grown.size,fun k hk hn=>(h'.grown.block k (Nat.lt_of_lt_of_le hk h.grown.size) (hne k hk hn)).trans (h.grown.block k hk hn)⟩,fun g hg cur e hc=>?_,?_⟩
 · obtain ⟨cur1,h1,h2,h3⟩:=h.keeps g hg cur e hc
   rcases h.where_ with he | he
   · obtain ⟨cur',h4,h5,h6⟩:=h'.keeps g (by rw [he];exact hg) cur1 e h1
     refine ⟨cur',h4,h5.trans h2,?_⟩
     have:cur'.toList.take n=cur1.toList.take n:=by
      have h7:=congrArg (List.take n) h6
      rwa [List.take_take,List.take_take,Nat.min_eq_left hnm] at h7
     exact this.trans h3
   · refine ⟨cur1,(h'.grown.block g (Array.getElem?_eq_some_iff.1 h1).1 fun e1=>?_).trans h1,h2,h3⟩
     have:=he g e1.symm
     have:=hlt g hg
     omega
 · rcases h'.where_ with he | he
   · rw [he];exact h.where_
   · exact .inr fun g hg=>Nat.le_trans h.grown.size (he g hg)
theorem Ownv.keep {w w':World} {v v' u:Value} {n B:Nat} {e:TypeId} {vs:List Value} (h:Added w w' v v' n) (hu:Ownv w B e u vs) (hn:vs.length≤n):Ownv w' B e u vs:=by
 by_cases hs:u.ownBlock=v.ownBlock
 · refine ⟨hu.1,?_⟩
   rcases hu.2 with h1 | ⟨g,cap,cur,rfl,hb,hg,hnc,hcm,hcs,ht⟩
   · exact .inl h1
   · obtain ⟨cur',h1,h2,h3⟩:=h.keeps g (by rw [←hs];rfl) cur e hg
     refine .inr ⟨g,cap,cur',rfl,hb,h1,hnc,hcm,h2.trans hcs,?_⟩
     rw [Nat.mul_one] at ht ⊢
     have h7:=congrArg (List.take vs.length) h3
     rw [List.take_take,List.take_take,Nat.min_eq_left hn] at h7
     exact h7.trans ht
 · exact Ownv.grown hu h.grown (.inr hs)
end
section
open Go.RowKit Go.Sort
open Oct
theorem strEq_iff (a b:ByteArray):(a.toList == b.toList)=true ↔ a=b:=by
 rw [beq_iff_eq]
 constructor
 · intro h
   rw [ByteArray.toList_eq,ByteArray.toList_eq] at h
   exact ByteArray.ext (Array.ext' h)
 · intro h;rw [h]
end
section
open Go.RowKit Go.Sort Go.Maps
def datOf (p:List Int):List Int:=if goodP p then dataP p else []
def unV (p:List Int):Value:=.tuple #[.int .i64 (numOf p:Nat),.string (strOfNums (datOf p)),.bool (decide (goodP p))]
theorem good_iff {p:List Int} (hl:p.length=128):goodP p ↔ (p=sealV (numP p) (dataP p)∨p=zerosP 128):=by
 have hd:((p.drop 4).take 116).length=116:=by simp [hl]
 unfold goodP sealV dataP
 constructor
 · rintro ⟨_,h | ⟨h1,h2,h3⟩⟩
   · exact .inr h
   · refine .inl ?_
     rw [if_pos ⟨by omega,by omega,hd⟩,Int.toNat_natCast];exact h3
 · rintro (h | h)
   · by_cases hc:1≤(numP p:Int)∧(numP p:Int)≤1073741824∧((p.drop 4).take 116).length=116
     · rw [if_pos hc,Int.toNat_natCast] at h
       exact ⟨hl,.inr ⟨by omega,by omega,h⟩⟩
     · rw [if_neg hc] at h;rw [h] at hl;cases hl
   · exact ⟨hl,.inl h⟩
theorem byts_sealV {n:Int} {d:List Int} (h:Byts d):Byts (sealV n d):=by
 unfold sealV;split
 · exact byts_seal h
 · intro x hx;cases hx
theorem byts_zeros (n:Nat):Byts (zerosP n):=fun x hx=>by
 rw [List.eq_of_mem_replicate hx];omega
theorem strNe {a b:ByteArray} (h : ¬a=b):(a.toList == b.toList)=false:=by
 cases hb:(a.toList == b.toList) with
 | true=>exact absurd ((strEq_iff a b).1 hb) h
 | false=>rfl
set_option maxRecDepth 100000 in
set_option maxHeartbeats 1000000 in
theorem unseal_any (p:List Int) (hb:Byts p) (hl:p.length≤10000) (w:World) :
 Calls Tryd.prog 40 #[.string (strOfNums p)] w fun e w'=>e = .returned (unV p)∧Below w.heap.size w w':=by
 have hsz:(strOfNums p).size=p.length:=strOfNums_size p
 by_cases h128:p.length=128
 · have x4:strOfNums (p.take 4)=(strOfNums p).extract 0 4:=(str_extract p 0 4).symm
   have x116:strOfNums (dataP p)=(strOfNums p).extract 4 120:=(str_extract p 4 120).symm
   have hnu:=Bx.mk fun W=>number_any (p.take 4) (fun x hx=>hb x (List.mem_of_mem_take hx)) (by simp;omega) W
   rw [numK_four (by omega)] at hnu
   have hbd:Byts (dataP p):=fun x hx=>hb x (List.mem_of_mem_drop (List.mem_of_mem_take hx))
   have hse:=Bx.mk fun W=>seal_any (numP p) (dataP p) hbd (by unfold dataP;simp;omega) W
   have hbl:Bx (∀ W,Calls Tryd.prog 65 #[.int .i64 128] W fun e w'=>e = .returned (.string (strOfNums (zerosP 128)))∧Below W.heap.size W w'):=⟨fun W=>blank_any 128 (by omega) W⟩
   rw [h128] at hsz
   have hgi:=good_iff h128
   have hi1:strOfNums p=strOfNums (sealV (numP p) (dataP p)) ↔ p=sealV (numP p) (dataP p):=⟨fun e=>strOfNums_inj hb (byts_sealV hbd) e,fun e=>congrArg _ e⟩
   have hi2:strOfNums p=strOfNums (zerosP 128) ↔ p=zerosP 128:=⟨fun e=>strOfNums_inj hb (byts_zeros 128) e,fun e=>congrArg _ e⟩
   rw [←hi1,←hi2] at hgi
   have hU:unV p = .tuple #[.int .i64 ((if goodP p then numP p else 0:Nat):Int),.string (if goodP p then strOfNums (dataP p) else ⟨#[]⟩),.bool (decide (goodP p))]:=by
    unfold unV numOf datOf
    by_cases hg:goodP p
    · rw [if_pos hg,if_pos hg,if_pos hg]
    · rw [if_neg hg,if_neg hg,if_neg hg];rfl
   rw [hU]
   have HG:=Bx.mk hgi
   clear hgi hi1 hi2 hU hbd hb
   generalize strOfNums (sealV (numP p) (dataP p))=Ss at *
   generalize strOfNums (zerosP 128)=Sz at *
   rw [x116] at hse ⊢
   rw [x4] at hnu
   clear x4 x116
   generalize hn:numP p=n at *
   clear hn
   obtain ⟨gd,hgd⟩ : ∃ b,b=decide (goodP p):=⟨_,rfl⟩
   have hgd2:goodP p ↔ gd=true:=by rw [hgd];simp
   have hU:(Value.tuple #[.int .i64 ((if goodP p then n else 0:Nat):Int),.string (if goodP p then (strOfNums p).extract 4 120 else ⟨#[]⟩),.bool (decide (goodP p))])=(if gd=true then .tuple #[.int .i64 (n:Int),.string ((strOfNums p).extract 4 120),.bool true] else .tuple #[.int .i64 0,.string ⟨#[]⟩,.bool false]):=by
    rw [←hgd]
    by_cases hg:goodP p
    · rw [if_pos hg,if_pos hg,if_pos (hgd2.1 hg),hgd2.1 hg]
    · rw [if_neg hg,if_neg hg,if_neg (fun h=>hg (hgd2.2 h)),show gd=false by simpa using fun h=>hg (hgd2.2 h)];rfl
   rw [hU]
   have hG2:gd=true ↔ (strOfNums p=Ss∨strOfNums p=Sz):=hgd2.symm.trans HG.out
   clear hU hgd hgd2 HG
   generalize strOfNums p=Sp at *
   have HG:=Bx.mk hG2
   clear hG2 h128 hl
   by_cases e1:Sp=Ss
   · have hg:gd=true:=HG.out.2 (.inl e1)
     have n1:(Sp.toList == Ss.toList)=true:=(strEq_iff _ _).2 e1
     rw [if_pos hg]
     clear hbl HG hg e1
     go_enter Tryd.func40,Tryd.ntmps40
     go_upto_region 3 with fail
     have q0:=Bx.mk fun dk osk=>Calls.regrown_of (hnu.out (grow (redrawn w dk) osk))
     refine wp_region_quiet_below (by kernel_rfl) (by kernel_rfl) ?_
     repeat (first
      | go_big_quiet_step (first | with_reducible exact q0.out _ _)
      | quiet_step (first | with_reducible exact q0.out _ _))
     refine wpQuiet_nil ?_
     rintro _ ⟨⟨dq,osq⟩,rfl⟩
     have HB1:=Bx.mk (below_regrown w dq osq)
     generalize grow (redrawn w dq) osq=w1 at *
     clear q0 hnu
     go_wp2_with fail
     refine (hse.out _).mono ?_
     rintro _ w2 ⟨rfl,hw2⟩
     have HB2:=Bx.mk (HB1.out.trans (hw2.mono HB1.out.size))
     clear hw2 hse
     go_wp2_with fail
     go_ret3
     exact ⟨rfl,HB2.out⟩
   · have n1:(Sp.toList == Ss.toList)=false:=strNe e1
     by_cases e2:Sp=Sz
     · have hg:gd=true:=HG.out.2 (.inr e2)
       have n2:(Sp.toList == Sz.toList)=true:=(strEq_iff _ _).2 e2
       rw [if_pos hg]
       clear HG hg e1 e2
       go_enter Tryd.func40,Tryd.ntmps40
       go_upto_region 3 with fail
       have q0:=Bx.mk fun dk osk=>Calls.regrown_of (hnu.out (grow (redrawn w dk) osk))
       refine wp_region_quiet_below (by kernel_rfl) (by kernel_rfl) ?_
       repeat (first
        | go_big_quiet_step (first | with_reducible exact q0.out _ _)
        | quiet_step (first | with_reducible exact q0.out _ _))
       refine wpQuiet_nil ?_
       rintro _ ⟨⟨dq,osq⟩,rfl⟩
       have HB1:=Bx.mk (below_regrown w dq osq)
       generalize grow (redrawn w dq) osq=w1 at *
       clear q0 hnu
       go_wp2_with fail
       refine (hse.out _).mono ?_
       rintro _ w2 ⟨rfl,hw2⟩
       have HB2:=Bx.mk (HB1.out.trans (hw2.mono HB1.out.size))
       clear hw2 hse
       go_wp2_with fail
       refine (hbl.out _).mono ?_
       rintro _ w3 ⟨rfl,hw3⟩
       have HB3:=Bx.mk (HB2.out.trans (hw3.mono HB2.out.size))
       clear hw3 hbl
       go_wp2_with fail
       go_ret3
       exact ⟨rfl,HB3.out⟩
     · have hg : ¬gd=true:=fun h=>by
        rcases HG.out.1 h with h | h
        · exact e1 h
        · exact e2 h
       have n2:(Sp.toList == Sz.toList)=false:=strNe e2
       rw [if_neg hg]
       clear HG hg e1 e2
       go_enter Tryd.func40,Tryd.ntmps40
       go_upto_region 3 with fail
       have q0:=Bx.mk fun dk osk=>Calls.regrown_of (hnu.out (grow (redrawn w dk) osk))
       refine wp_region_quiet_below (by kernel_rfl) (by kernel_rfl) ?_
       repeat (first
        | go_big_quiet_step (first | with_reducible exact q0.out _ _)
        | quiet_step (first | with_reducible exact q0.out _ _))
       refine wpQuiet_nil ?_
       rintro _ ⟨⟨dq,osq⟩,rfl⟩
       have HB1:=Bx.mk (below_regrown w dq osq)
       generalize grow (redrawn w dq) osq=w1 at *
       clear q0 hnu
       go_wp2_with fail
       refine (hse.out _).mono ?_
       rintro _ w2 ⟨rfl,hw2⟩
       have HB2:=Bx.mk (HB1.out.trans (hw2.mono HB1.out.size))
       clear hw2 hse
       go_wp2_with fail
       refine (hbl.out _).mono ?_
       rintro _ w3 ⟨rfl,hw3⟩
       have HB3:=Bx.mk (HB2.out.trans (hw3.mono HB2.out.size))
       clear hw3 hbl
       go_wp2_with fail
       go_ret3
       exact ⟨rfl,HB3.out⟩
 · have hg : ¬goodP p:=fun h=>h128 h.1
   have hU:unV p = .tuple #[.int .i64 0,.string ⟨#[]⟩,.bool false]:=by
    unfold unV numOf datOf
    rw [if_neg hg,if_neg hg,decide_eq_false hg];rfl
   rw [hU]
   generalize p.length=l at *
   have t2:((l:Int) != 128)=true:=by simp;omega
   have t2b:((l:Int) == 128)=false:=by simp;omega
   have t2d : ¬(l:Int)=128:=by omega
   generalize strOfNums p=Sp at *
   clear hU hg hb hl
   go_enter Tryd.func40,Tryd.ntmps40
   go_wp2_with fail
   go_ret3
   exact ⟨rfl,Below.refl _ _⟩
end
section
open Go.RowKit
def arrV (k:IntKind) (xs:List Int):Value:=.agg (xs.map (Value.int k)).toArray
theorem one_ints (k:IntKind) (xs:List Int):(xs.map (Value.int k)).toArray.all (·.oneCell')=true:=by
 rw [Array.all_eq_true_iff_forall_mem]
 intro v hv
 simp only [List.mem_toArray,List.mem_map] at hv
 obtain ⟨x,_,rfl⟩:=hv
 rfl
theorem wpList_load_whole {P:Program} {ops:Array Oper} {rest:List Oper} {op:Oper} {a:Act} {w:World} {Q:Exit→Act→World→Prop} (hgd:op.guard=none) (ty:TypeId) (x:Operand) (ho:op.op = .load ty x)
 (g:Nat) (hx:a.eval x = .pointer (some ⟨g,0,none⟩)) (cs:Array Value) (t:TypeId) (hg:w.heap[g]? = some (.cells cs t (0,0))) (d:TypeDesc)
 (hu:P.underlying ty=some d) (hd:(match d with | .struct _ | .array _ _=>true | _=>false)=true) (hi:(P.info? ty).map (·.size)=some cs.size)
 (h:wpList P ops Q rest (a.put op.dst (.agg cs)) w):wpList P ops Q (op::rest) a w:=by
 refine wpList_plain hgd fun K hK=>?_
 unfold Oper.wp execOp
 simp only [ho,hx,Instr.loadAt,Instr.sureAddr,Sem.run_bind,Sem.run_pure,Result.andThen_ok,run_loadVar_row w g t ty cs (0,0) d hg hu hd hi]
 exact hK _ _ h
theorem wpList_store_whole {P:Program} {ops:Array Oper} {rest:List Oper} {op:Oper} {a:Act} {w:World} {Q:Exit→Act→World→Prop} (hgd:op.guard=none) (ty:TypeId) (x y:Operand) (ho:op.op = .store ty x y)
 (g:Nat) (hx:a.eval x = .pointer (some ⟨g,0,none⟩)) (cs cs':Array Value) (hy:a.eval y = .agg cs') (t:TypeId) (hg:w.heap[g]? = some (.cells cs t (0,0)))
 (hi:(P.info? ty).map (·.size)=some cs'.size) (hs:cs.size=cs'.size) (h1:cs'.all (·.oneCell')=true)
 (h:wpList P ops Q rest (a.put op.dst undef) (w.setRow g cs')):wpList P ops Q (op::rest) a w:=by
 refine wpList_plain hgd fun K hK=>?_
 unfold Oper.wp execOp
 have hr:=run_storeVar_row (P:=P) w g t ty cs cs' hg hi hs h1
 simp only [ho,hx,hy,Instr.storeAt,Instr.sureAddr,Sem.run_bind,Sem.run_pure,Result.andThen_ok,hr]
 exact hK _ _ h
theorem first_str {P:Program} (w:World) (s:List Int) (hs:Byt s):(Builtin.firstCells 1 s.length (.string (strOfNums s))).run P w = .ok (s.map (Value.int .u8)).toArray w:=by
 have h1:(strOfNums s).extract 0 s.length=strOfNums s:=by
  rw [str_extract,List.drop_zero,Nat.sub_zero,List.take_length]
 show (pure (((strOfNums s).extract 0 s.length).data.map fun b=>Value.int .u8 (b.toNat:Int)):Sem (Array Value)).run P w=_
 rw [h1]
 have h2:((strOfNums s).data.map fun b=>Value.int .u8 (b.toNat:Int))=(s.map (Value.int .u8)).toArray:=by
  have h3:=bs_str hs
  apply Array.ext'
  rw [Array.toList_map]
  conv=>rhs;rw [←h3]
  unfold bs
  rw [List.map_map]
  rfl
 rw [h2]
 rfl
theorem put_cells (ys:List Int) (o:Nat) (s:List Int):(((ys.map (Value.int .u8)).toArray.toList.take o++s.map (Value.int .u8)++(ys.map (Value.int .u8)).toArray.toList.drop (o+(s.map (Value.int .u8)).length)).toArray)=((put ys o s).map (Value.int .u8)).toArray:=by
 unfold put
 simp
theorem run_copy_str {P:Program} (w:World) (dT sT ty elem:TypeId) (g o dLen dCap:Nat) (t:TypeId) (ys s:List Int) (hs:Byt s)
 (hu:P.underlying dT=some (.slice elem)) (hsz:(P.info? elem).map (·.size)=some 1) (hg:w.heap[g]? = some (.cells (ys.map (Value.int .u8)).toArray t (0,0))) (hn:s.length≤dLen) (hfit:o+s.length≤ys.length) :
 (Builtin.copy_ #[dT,sT] ty #[.slice (some ⟨g,o,none⟩) dLen dCap,.string (strOfNums s)]).run P w = .ok (goInt s.length) (w.setRow g ((put ys o s).map (Value.int .u8)).toArray):=by
 have hst:=run_storeCells_at P g o t (s.map (Value.int .u8)) 0 _ w hg (by simpa using hfit) (fun v hv=>by
  obtain ⟨x,_,rfl⟩:=List.mem_map.1 hv
  rfl)
 have hf:=first_str (P:=P) w s hs
 have hm:Nat.min (strOfNums s).size dLen=s.length:=by rw [strOfNums_size];exact Nat.min_eq_left hn
 rw [Nat.add_zero,put_cells] at hst
 cases hq:P.info? elem with
 | none=>simp [hq] at hsz
 | some i =>
   have hi:i.size=1:=by simpa [hq] using hsz
   simp [Builtin.copy_,run_underlying hu,Builtin.lenOf,sizeOf,typeInfo,hq,hi,hm,hf,hst]
theorem wpList_copy_str {P:Program} {w:World} {ops:Array Oper} {rest:List Oper} {o:Oper} {a:Act} {Q:Exit→Act→World→Prop} (hgd:o.guard=none) (d s:Operand) (dT sT:TypeId)
 (ho:o.op = .call { callee:=.builtin .copy,args:=#[d,s],argTypes:=#[dT,sT] }) (elem:TypeId) (hu:P.underlying dT=some (.slice elem)) (hsz:(P.info? elem).map (·.size)=some 1)
 (g off dLen dCap:Nat) (hd:a.eval d = .slice (some ⟨g,off,none⟩) dLen dCap) (ys xs:List Int) (hx:Byt xs) (hs:a.eval s = .string (strOfNums xs)) (t:TypeId)
 (hg:w.heap[g]? = some (.cells (ys.map (Value.int .u8)).toArray t (0,0))) (hn:xs.length≤dLen) (hfit:off+xs.length≤ys.length)
 (h:wpList P ops Q rest (a.put o.dst (goInt xs.length)) (w.setRow g ((put ys off xs).map (Value.int .u8)).toArray)):wpList P ops Q (o::rest) a w:=by
 refine wpList_plain hgd fun K hK=>?_
 have hr:=run_copy_str (P:=P) w dT sT o.type elem g off dLen dCap t ys xs hx hu hsz hg hn hfit
 unfold Oper.wp execOp
 simp only [ho,resolve,invoke,builtin,Sem.run_bind,Sem.run_pure,Result.andThen_ok,List.map_toArray,List.map_cons,List.map_nil,hd,hs,hr]
 exact hK _ _ h
theorem wpQuiet_load_mid {P:Program} {ops:Array Oper} {C:World→Prop} {Q:Act→Prop} {a:Act} {o:Oper} {rest:List Oper} (hgd:o.guard=none) (ty:TypeId) (x:Operand) (ho:o.op = .load ty x)
 (b off:Nat) (hx:a.eval x = .pointer (some ⟨b,off,none⟩)) (cs:List Value) (d:TypeDesc) (hc : ∀ w,C w→w.rangeAt b off cs)
 (hu:P.underlying ty=some d) (hd:d.isRow=true) (hi:(P.info? ty).map (·.size)=some cs.length)
 (h:wpQuiet P ops C Q rest (a.put o.dst (.agg cs.toArray))):wpQuiet P ops C Q (o::rest) a:=by
 refine wpQuiet_step fun K hK=>?_
 have hw:Region.wanted o (yielded ops a.tmps)=true:=by unfold Region.wanted;rw [hgd]
 rw [if_pos hw]
 refine ⟨.agg cs.toArray,fun w hCw=>?_,hK _ h⟩
 unfold Oper.quietAt execOp
 simp only [ho,hx,Instr.loadAt,Instr.sureAddr,Sem.run_bind,Sem.run_pure,Result.andThen_ok,run_loadVar_mid w b off ty cs d (hc w hCw) hu hd hi]
 exact ⟨rfl,rfl⟩
structure Chg (S:Nat→Prop) (w w':World):Prop where
 os:w'.os=w.os
 tape:w'.tape=w.tape
 output:w'.output=w.output
 size:w.heap.size≤w'.heap.size
 block : ∀ k,k<w.heap.size → ¬S k→w'.heap[k]? = w.heap[k]?
section
variable {S T:Nat→Prop} {w w1 w':World}
theorem Chg.refl (S:Nat→Prop) (w:World):Chg S w w:=⟨rfl,rfl,rfl,Nat.le_refl _,fun _ _ _=>rfl⟩
theorem Chg.ofBelow (h:Below w.heap.size w w') (S:Nat→Prop):Chg S w w':=⟨h.os,h.tape,h.output,h.size,fun k hk _=>h.block k hk⟩
theorem Chg.ofGrown {b:Nat} (h:w.grownBy w' (some b)):Chg (· = b) w w':=⟨h.os,h.tape,h.output,h.size,fun k hk hn=>h.block k hk (by simpa using hn)⟩
theorem Chg.ofBlock {b:Nat} {es:Array MapEntry} {c:Nat} (_h:w.heap[b]? = some (.map es c)) (o:Obj):Chg (· = b) w (Go.ChangeMaps.setBlock w b o) :=
 ⟨rfl,rfl,rfl,by simp [Go.ChangeMaps.setBlock],fun k _ hn=>by simp only [Go.ChangeMaps.setBlock];rw [Array.getElem?_setIfInBounds_ne (fun e=>hn e.symm)]⟩
theorem Chg.mono (h:Chg S w w') (hs : ∀ k,k<w.heap.size→S k→T k):Chg T w w':=⟨h.os,h.tape,h.output,h.size,fun k hk hn=>h.block k hk fun e=>hn (hs k hk e)⟩
theorem Chg.trans (h:Chg S w w1) (h':Chg T w1 w') (hs : ∀ k,k<w.heap.size→T k→S k):Chg S w w' :=
 ⟨h'.os.trans h.os,h'.tape.trans h.tape,h'.output.trans h.output,Nat.le_trans h.size h'.size,fun k hk hn=>(h'.block k (Nat.lt_of_lt_of_le hk h.size) fun e=>hn (hs k hk e)).trans (h.block k hk hn)⟩
theorem Chg.below {B:Nat} (h:Chg S w w') (hB:B≤w.heap.size) (hs : ∀ k,k<B → ¬S k):Below B w w':=⟨h.os,h.tape,h.output,h.size,fun k hk=>h.block k (Nat.lt_of_lt_of_le hk hB) (hs k hk)⟩
theorem Chg.setCell (h:Chg S w w') {a:Addr} (ha:S a.block∨w.heap.size≤a.block) (v:Value):Chg S w (w'.setCell a v) :=
 ⟨h.os,h.tape,h.output,by simpa [World.setCell] using h.size,fun k hk hn=>by
  rw [heap_setCell_other w' a k v (fun e=>by subst e;rcases ha with h1 | h1 <;> first | exact hn h1 | omega)]
  exact h.block k hk hn⟩
theorem Chg.later {B:Nat} (h:Chg S w w1) (hb:Below B w1 w') (hB:w.heap.size≤B):Chg S w w' :=
 ⟨hb.os.trans h.os,hb.tape.trans h.tape,hb.output.trans h.output,Nat.le_trans h.size hb.size,fun k hk hn=>(hb.block k (by omega)).trans (h.block k hk hn)⟩
theorem Bk.chg {b:Nat} {cs:Array Value} {t:TypeId} (h:Bk w b cs t) (hc:Chg S w w') (hn : ¬S b):Bk w' b cs t:=by
 unfold Bk;rw [hc.block b (Bk.lt h) hn];exact h
end
theorem heap_setCells_other (b:Nat) : ∀ (vs:List Value) (o:Nat) (w:World) (k:Nat),k ≠ b→(w.setCells b o vs).heap[k]? = w.heap[k]?
 | [],_,_,_,_=>rfl
 | v :: vs, o, w, k, hk => by
   unfold World.setCells
   rw [heap_setCells_other b vs _ _ k hk,heap_setCell_other w ⟨b,o,none⟩ k v hk]
theorem setCells_rest (b:Nat) : ∀ (vs:List Value) (o:Nat) (w:World),(w.setCells b o vs).os=w.os∧(w.setCells b o vs).tape=w.tape∧(w.setCells b o vs).output=w.output∧(w.setCells b o vs).heap.size=w.heap.size
 | [],_,_=>⟨rfl,rfl,rfl,rfl⟩
 | v :: vs, o, w => by
   unfold World.setCells
   obtain ⟨h1,h2,h3,h4⟩:=setCells_rest b vs (o+1) (w.setCell ⟨b,o,none⟩ v)
   exact ⟨h1,h2,h3,h4.trans (by simp [World.setCell])⟩
theorem Chg.setCells {S:Nat→Prop} {w w':World} (h:Chg S w w') {b:Nat} (hb:S b∨w.heap.size≤b) (o:Nat) (vs:List Value):Chg S w (w'.setCells b o vs):=by
 obtain ⟨h1,h2,h3,h4⟩:=setCells_rest b vs o w'
 exact ⟨h1.trans h.os,h2.trans h.tape,h3.trans h.output,by rw [h4];exact h.size,fun k hk hn=>by
  rw [heap_setCells_other b vs o w' k (fun e=>by subst e;rcases hb with h1 | h1 <;> first | exact hn h1 | omega)]
  exact h.block k hk hn⟩
structure Pages (w:World) (g:Nat) (p:List Pg):Prop where
 at_ : ∀ i x,p[i]? = some x→w.rangeAt g (i * 128) (x.1.map (Value.int .u8))
 free:w.there g 0 (p.length * 128)
 lt:g<w.heap.size
section
variable {w w':World} {g:Nat} {p:List Pg}
theorem cell_of_heap {w w':World} {b:Nat} (h:w'.heap[b]? = w.heap[b]?) (o:Nat):w'.cell? ⟨b,o,none⟩=w.cell? ⟨b,o,none⟩:=World.cell?_of_block h
theorem frozen_of_heap {w w':World} {b:Nat} (h:w'.heap[b]? = w.heap[b]?) (o:Nat):w'.frozen? ⟨b,o,none⟩=w.frozen? ⟨b,o,none⟩:=by unfold World.frozen?; rw [h]
theorem Pages.of_heap (h:Pages w g p) (he:w'.heap[g]? = w.heap[g]?) (hs:w.heap.size≤w'.heap.size):Pages w' g p :=
 ⟨fun i x hx j v hv=>(cell_of_heap he _).trans (h.at_ i x hx j v hv),fun j hj=>by rw [cell_of_heap he,frozen_of_heap he];exact h.free j hj,Nat.lt_of_lt_of_le h.lt hs⟩
theorem Pages.chg {S:Nat→Prop} (h:Pages w g p) (hc:Chg S w w') (hn : ¬S g):Pages w' g p:=h.of_heap (hc.block g h.lt hn) hc.size
theorem Pages.later (h:Pages w g p) (hb:Below w.heap.size w w'):Pages w' g p:=h.chg (.ofBelow hb (fun _=>False)) (fun e=>e)
theorem Pages.there (h:Pages w g p) {i:Nat} (hi:i<p.length):w.there g (i * 128) 128:=fun j hj=>by
 have:=h.free (i * 128+j) (by omega)
 rwa [Nat.zero_add] at this
theorem Pages.same {q:List Pg} (h:Pages w g p) (hq:q.map (·.1)=p.map (·.1)):Pages w g q:=by
 have hl:q.length=p.length:=by simpa using congrArg List.length hq
 refine ⟨fun i x hx=>?_,by rw [hl];exact h.free,h.lt⟩
 have h1:(q.map (·.1))[i]? = some x.1:=by rw [List.getElem?_map,hx];rfl
 rw [hq,List.getElem?_map] at h1
 cases h2:p[i]? with
 | none=>rw [h2] at h1;cases h1
 | some y =>
   rw [h2] at h1
   injection h1 with h1
   rw [←h1];exact h.at_ i y h2
theorem Pages.put (h:Pages w g p) {i o:Nat} {ys:List Int} (hl : ∀ x∈p,x.1.length=128) (ho:o+ys.length≤128) (f:Pg→Pg) (hf : ∀ x,p[i]? = some x→(f x).1=Go.Proofs.YtajhkncolbgkbaaDoor.put x.1 o ys) :
 Pages (w.setCells g (i * 128+o) (ys.map (Value.int .u8))) g (p.modify i f):=by
 obtain ⟨_,_,_,hsz⟩:=setCells_rest g (ys.map (Value.int .u8)) (i * 128+o) w
 refine ⟨fun k x hx=>?_,?_,by rw [hsz];exact h.lt⟩
 · rw [List.getElem?_modify] at hx
   cases hk:p[k]? with
   | none=>rw [hk] at hx;cases hx
   | some y =>
     have hy:=hl y (List.mem_of_getElem? hk)
     rw [hk] at hx
     by_cases e:i=k
     · subst e
       simp only [if_true] at hx
       replace hx:f y=x:=by injection hx
       subst hx
       rw [hf y hk]
       intro j v hv
       have hi:=(List.getElem?_eq_some_iff.1 hk).1
       rw [List.getElem?_map] at hv
       unfold Go.Proofs.YtajhkncolbgkbaaDoor.put at hv
       by_cases h1:j<o
       · rw [World.cell?_setCells_out _ _ _ _ _ (fun _ _=>by left;show i * 128+j<_;omega)]
         refine h.at_ i y hk j v ?_
         rw [List.append_assoc,List.getElem?_append_left (by rw [List.length_take];omega),List.getElem?_take,if_pos h1] at hv
         rw [List.getElem?_map];exact hv
       · by_cases h2:j<o+ys.length
         · rw [List.append_assoc,List.getElem?_append_right (by rw [List.length_take];omega),List.length_take,List.getElem?_append_left (by omega)] at hv
           have hj:j - o<(ys.map (Value.int .u8)).length:=by rw [List.length_map];omega
           have:=World.cell?_setCells_in g (ys.map (Value.int .u8)) (i * 128+o) w (fun j' hj'=>by
            have:=(h.there hi (o+j') (by rw [List.length_map] at hj';omega)).1
            rwa [←Nat.add_assoc] at this) (j - o) hj
           rw [show i * 128+o+(j - o)=i * 128+j by omega] at this
           rw [this,←hv]
           rw [show j - min o y.1.length=j - o by omega]
           rw [←List.getElem?_eq_getElem hj,List.getElem?_map]
         · rw [World.cell?_setCells_out _ _ _ _ _ (fun _ _=>by right;show _≤i * 128+j;rw [List.length_map];omega)]
           refine h.at_ i y hk j v ?_
           rw [List.append_assoc,List.getElem?_append_right (by rw [List.length_take];omega),List.length_take,List.getElem?_append_right (by omega),List.getElem?_drop] at hv
           rw [List.getElem?_map,←hv]
           congr 2
           omega
     · simp only [if_neg e] at hx
       replace hx:y=x:=by simpa using hx
       subst hx
       refine World.rangeAt_setCells_apart (h.at_ k y hk) _ _ _ (.inr ?_)
       rw [List.length_map,List.length_map,hy]
       omega
 · rw [List.length_modify]
   exact World.there_setCells h.free _ _ _
end
end
end Go.Proofs.YtajhkncolbgkbaaDoor
