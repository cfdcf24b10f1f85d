/- Stl, Siz, Inr, Enc: joined by program, for one claim. -/
import Derived.Test.YtgnfgblkpnfcnaaGreatDoorM21
set_option maxHeartbeats 2000000
set_option maxRecDepth 100000
set_option linter.unusedVariables false
set_option linter.unusedSimpArgs false
namespace Go.Proofs.YtgnfgblkpnfcnaaGreatDoor
section
open Go.RowKit
def Slv (w:World) (a:Option Addr) (vs:List Value):Prop := ∀ i v,vs[i]? = some v → ∃ b off,a=some ⟨b,off,none⟩∧w.cell? ⟨b,off+i,none⟩=some v
theorem Slv.nil (w:World) (a:Option Addr):Slv w a []:=fun i x h=>by simp at h
theorem Slv.below {w w':World} {a:Option Addr} {vs:List Value} (h:Slv w a vs) (hb:Below w.heap.size w w'):Slv w' a vs:=by
 intro i x hx;obtain ⟨b,off,rfl,hc⟩:=h i x hx;exact ⟨b,off,rfl,cell_later hb hc⟩
def Ownv (w:World) (B:Nat) (e:TypeId) (v:Value) (vs:List Value):Prop:=w.ownsRow B e 1 v vs.length vs
theorem Ownv.nil (w:World) (B:Nat) (e:TypeId):Ownv w B e (.slice none 0 0) []:=World.ownsRow_nil w B e 1
theorem Ownv.form {w:World} {B:Nat} {e:TypeId} {v:Value} {vs:List Value} (h:Ownv w B e v vs) : ∃ a cap,v = .slice a vs.length cap∧Slv w a vs:=by
 rcases h.2 with ⟨rfl,hn⟩ | ⟨g,cap,cur,rfl,hb,hg,hnc,hcm,hcs,ht⟩
 · have hx:vs=[]:=List.eq_nil_of_length_eq_zero hn;subst hx;exact ⟨none,0,rfl,Slv.nil _ _⟩
 · refine ⟨_,cap,rfl,fun i x hx=>⟨g,0,rfl,?_⟩⟩;have hi:i<vs.length:=(List.getElem?_eq_some_iff.1 hx).1;have hcell:w.cell? ⟨g,i,none⟩=cur[i]? := by simp [World.cell?,hg]
   rw [Nat.zero_add,hcell];rw [←ht,List.getElem?_take,if_pos (by omega)] at hx
   simpa using hx
theorem Ownv.form1 {w:World} {B:Nat} {e:TypeId} {v:Value} {vs:List Value} (h:Ownv w B e v vs) (hn:0<vs.length) : ∃ g cap,v = .slice (some ⟨g,0,none⟩) vs.length cap∧Slv w (some ⟨g,0,none⟩) vs∧B≤g∧g<w.heap.size:=by
 obtain ⟨a,cap,he,hs⟩:=h.form;rcases h.2 with ⟨_,hz⟩ | ⟨g,cap',cur,hv,hb,hg,_⟩
 · omega
 · rw [hv] at he;injection he with h1 h2 h3;exact ⟨g,cap',hv,by rw [h1];exact hs,hb,(Array.getElem?_eq_some_iff.1 hg).1⟩
theorem Slv.grown {w w':World} {g off:Nat} {vs:List Value} {row:Option Nat} (h:Slv w (some ⟨g,off,none⟩) vs) (hg:w.grownBy w' row) (hne:row ≠ some g):Slv w' (some ⟨g,off,none⟩) vs:=by
 intro i x hx;obtain ⟨b,o,he,hc⟩:=h i x hx;simp only [Option.some.injEq,Addr.mk.injEq,and_true] at he;obtain ⟨rfl,rfl⟩:=he;refine ⟨_,_,rfl,?_⟩;have hlt:=World.block_lt_of_cell? w _ hc;rw [World.cell?_of_block (hg.block _ hlt (fun e=>hne e.symm))];exact hc
theorem Ownv.sl {w:World} {B:Nat} {e:TypeId} {a:Option Addr} {n c:Nat} {vs:List Value} (h:Ownv w B e (.slice a n c) vs):Slv w a vs:=by
 obtain ⟨a',c',he,hs⟩:=h.form;injection he with h1 h2 h3;subst h1;exact hs
theorem Ownv.lt {w:World} {B:Nat} {e:TypeId} {v:Value} {vs:List Value} (h:Ownv w B e v vs) : ∀ g,v.ownBlock=some g→B≤g∧g<w.heap.size:=World.ownsRow.lt h
theorem Ownv.below {w w':World} {B:Nat} {e:TypeId} {v:Value} {vs:List Value} (h:Ownv w B e v vs) (hb:Below w.heap.size w w'):Ownv w' B e v vs :=
 World.ownsRow.kept (row:=none) h ⟨hb.os,hb.tape,hb.output,hb.size,fun i hi _=>hb.block i hi⟩ (by cases v.ownBlock <;> simp)
theorem Ownv.alloc {w:World} {B:Nat} {e:TypeId} {v:Value} {vs:List Value} (h:Ownv w B e v vs) (o:Obj):Ownv (w.alloc o) B e v vs:=World.ownsRow.alloc h o
theorem Ownv.base {w:World} {B B':Nat} {e:TypeId} {v:Value} {vs:List Value} (h:Ownv w B e v vs) (hB:B'≤B):Ownv w B' e v vs:=by
 refine ⟨h.1,h.2.imp id ?_⟩;rintro ⟨g,cap,cur,h1,h2,h3⟩;exact ⟨g,cap,cur,h1,Nat.le_trans hB h2,h3⟩
theorem Ownv.grown {w w':World} {B:Nat} {e:TypeId} {v:Value} {vs:List Value} (h:Ownv w B e v vs) {row:Option Nat} (hg:w.grownBy w' row) (hne:v.ownBlock=none∨v.ownBlock ≠ row):Ownv w' B e v vs:=World.ownsRow.kept h hg hne
theorem zAH {P:Program} {w:World} {ops:Array Oper} {rest:List Oper} {o:Oper} {a:Act} {Q:Exit→Act→World→Prop} (hgd:o.guard=none) (s x:Operand) (t:TypeId)
 (ho:o.op = .call { callee:=.builtin .append,args:=#[s,x],argTypes:=#[t,t] })
 (e:TypeId) (z:Value) (bytes:Nat) (hbz:bytes≤24) (ht:P.underlying t=some (.slice e))
 (hi:(P.info? e).map (fun i=>(i.zero,i.size,i.bytes))=some (some z,1,bytes)) (hzs:z.cells.size=1)
 (B:Nat) (v:Value) (vs:List Value) (hs:a.eval s=v) (hown:Ownv w B e v vs) (u:Value) (hu1:u.oneCell'=true)
 (ad:Addr) (c:Nat) (hx:a.eval x = .slice (some ad) 1 c) (hcell:w.cell? ad=some u) (hlen:vs.length≤1000000000) (hbase:B≤w.heap.size)
 (h : ∀ v' w',Ownv w' B e v' (vs++[u])→w.grownBy w' v.ownBlock→(v'.ownBlock=v.ownBlock∨v'.ownBlock=some w.heap.size)→wpList P ops Q rest (a.put o.dst v') w') :
 wpList P ops Q (o::rest) a w:=by
 obtain ⟨i0,hi0,hz0,hz1,hz2⟩:=info_parts hi;refine wpList_plain hgd fun K hK=>?_
 have hnews : ∀ j u',[u][j]? = some u'→w.cell? (ad.add j)=some u':=by
  intro j u' hu
  match j with
  | 0=>simp at hu;subst hu;simpa [Addr.add] using hcell
  | j+1=>simp at hu
 obtain ⟨v',w',hr,h2,h3,_,h4⟩:=run_append_own_at (P:=P) w B t o.type e i0 z 1 bytes ht hi0 hz0 hz1 hz2 hzs (by omega) v vs.length _ hown ad 1 c [u] rfl hnews (by simpa using hu1)
  (by simp only [maxLen];omega) (by have:(vs.length+1) * bytes≤(vs.length+1) * 24:=Nat.mul_le_mul_left _ hbz;omega) hbase
 unfold Oper.wp execOp;simp only [ho,resolve,invoke,builtin,Sem.run_bind,Sem.run_pure,Result.andThen_ok,List.map_toArray,List.map_cons,List.map_nil,hs,hx,hr];exact hK _ _ (h v' w' (by unfold Ownv;simpa using h2) h3 h4)
def zy (ls:List (List Int)):List Value:=ls.map fun l=>.string (strOfNums l)
theorem zz (ls:List (List Int)):(zy ls).length=ls.length:=by unfold zy;rw [List.length_map]
theorem zMy {ls:List (List Int)} {i:Nat} {l:List Int} (h:ls[i]? = some l):(zy ls)[i]? = some (.string (strOfNums l)):=by unfold zy;rw [List.getElem?_map,h];rfl
theorem zMz (ls:List (List Int)) (l:List Int):zy (ls++[l])=zy ls++[.string (strOfNums l)]:=by unfold zy;rw [List.map_append];rfl
def zAZ (w w':World) (v:Value) (n:Nat):Prop := ∀ g,v.ownBlock=some g → ∀ cur e,w.heap[g]? = some (.cells cur e (0,0)) → ∃ cur',w'.heap[g]? = some (.cells cur' e (0,0))∧cur'.size=cur.size∧cur'.toList.take n=cur.toList.take n
structure Added (w w':World) (v v':Value) (n:Nat):Prop where
 grown:w.grownBy w' v.ownBlock
 keeps:zAZ w w' v n
 where_:v'.ownBlock=v.ownBlock ∨ ∀ g,v'.ownBlock=some g→w.heap.size≤g
theorem Added.refl (w:World) (v:Value) (n:Nat):Added w w v v n:=⟨⟨rfl,rfl,rfl,Nat.le_refl _,fun _ _ _=>rfl⟩,fun _ _ cur _e h=>⟨cur,h,rfl,rfl⟩,.inl rfl⟩
theorem Added.below {w w1 w':World} {v v':Value} {n:Nat} (h:Added w w1 v v' n) (hb:Below w1.heap.size w1 w'):Added w w' v v' n:=by
 refine ⟨⟨hb.os.trans h.grown.os,hb.tape.trans h.grown.tape,hb.output.trans h.grown.output,Nat.le_trans h.grown.size hb.size,fun k hk hne=>(hb.block k (Nat.lt_of_lt_of_le hk h.grown.size)).trans (h.grown.block k hk hne)⟩,fun g hg cur e hc=>?_,h.where_⟩;obtain ⟨cur',h1,h2,h3⟩:=h.keeps g hg cur e hc;exact ⟨cur',(hb.block g (Array.getElem?_eq_some_iff.1 h1).1).trans h1,h2,h3⟩
theorem Added.after {w w1 w':World} {v v':Value} {n:Nat} (hb:Below w.heap.size w w1) (h:Added w1 w' v v' n) (hv : ∀ g,v.ownBlock=some g→g<w.heap.size):Added w w' v v' n:=by
 refine ⟨⟨h.grown.os.trans hb.os,h.grown.tape.trans hb.tape,h.grown.output.trans hb.output,Nat.le_trans hb.size h.grown.size,fun k hk hne=>(h.grown.block k (Nat.lt_of_lt_of_le hk hb.size) hne).trans (hb.block k hk)⟩,fun g hg cur e hc=>?_,?_⟩
 · exact h.keeps g hg cur e ((hb.block g (hv g hg)).trans hc)
 · rcases h.where_ with h1 | h1
   · exact .inl h1
   · exact .inr fun g hg=>Nat.le_trans hb.size (h1 g hg)
theorem Added.trans {w w1 w':World} {v v1 v':Value} {n m:Nat} (h:Added w w1 v v1 n) (h':Added w1 w' v1 v' m) (hnm:n≤m) (hlt : ∀ g,v.ownBlock=some g→g<w.heap.size):Added w w' v v' n:=by
 have hne : ∀ k,k<w.heap.size→some k ≠ v.ownBlock→some k ≠ v1.ownBlock:=fun k hk hne e=>by
  rcases h.where_ with h1 | h1
  · exact hne (by rw [←h1];exact e)
  · have:=h1 k e.symm;omega
 refine ⟨⟨h'.grown.os.trans h.grown.os,h'.grown.tape.trans h.grown.tape,h'.grown.output.trans h.grown.output,Nat.le_trans h.grown.size h'.grown.size,fun k hk hn=>(h'.grown.block k (Nat.lt_of_lt_of_le hk h.grown.size) (hne k hk hn)).trans (h.grown.block k hk hn)⟩,fun g hg cur e hc=>?_,?_⟩
 · obtain ⟨cur1,h1,h2,h3⟩:=h.keeps g hg cur e hc;rcases h.where_ with he | he
   · obtain ⟨cur',h4,h5,h6⟩:=h'.keeps g (by rw [he];exact hg) cur1 e h1
     refine ⟨cur',h4,h5.trans h2,?_⟩
     have:cur'.toList.take n=cur1.toList.take n:=by
      have h7:=congrArg (List.take n) h6;rwa [List.take_take,List.take_take,Nat.min_eq_left hnm] at h7
     exact this.trans h3
   · refine ⟨cur1,(h'.grown.block g (Array.getElem?_eq_some_iff.1 h1).1 fun e1=>?_).trans h1,h2,h3⟩;have:=he g e1.symm;have:=hlt g hg;omega
 · rcases h'.where_ with he | he
   · rw [he];exact h.where_
   · exact .inr fun g hg=>Nat.le_trans h.grown.size (he g hg)
theorem Ownv.keep {w w':World} {v v' u:Value} {n B:Nat} {e:TypeId} {vs:List Value} (h:Added w w' v v' n) (hu:Ownv w B e u vs) (hn:vs.length≤n):Ownv w' B e u vs:=by
 by_cases hs:u.ownBlock=v.ownBlock
 · refine ⟨hu.1,?_⟩;rcases hu.2 with h1 | ⟨g,cap,cur,rfl,hb,hg,hnc,hcm,hcs,ht⟩
   · exact .inl h1
   · obtain ⟨cur',h1,h2,h3⟩:=h.keeps g (by rw [←hs];rfl) cur e hg
     refine .inr ⟨g,cap,cur',rfl,hb,h1,hnc,hcm,h2.trans hcs,?_⟩;rw [Nat.mul_one] at ht ⊢;have h7:=congrArg (List.take vs.length) h3;rw [List.take_take,List.take_take,Nat.min_eq_left hn] at h7;exact h7.trans ht
 · exact Ownv.grown hu h.grown (.inr hs)
theorem zLk {P:Program} (w:World) (base:Nat) (t ty e:TypeId) (i:TypeInfo) (z:Value) (bytes:Nat) (ht:P.underlying t=some (.slice e)) (hi:P.info? e=some i) (hz:i.zero=some z)
 (hsize:i.size=1) (hby:i.bytes=bytes) (hzs:z.cells.size=1) (v:Value) (n:Nat) (xs:List Value) (hown:w.ownsRow base e 1 v n xs)
 (a:Addr) (c:Nat) (u:Value) (hnews : ∀ j u',[u][j]? = some u'→w.cell? (a.add j)=some u') (h1:u.oneCell'=true)
 (h63:n+1≤maxLen) (hbytes:(n+1) * bytes≤140737488355328) (hbase:base≤w.heap.size) :
 ∃ v' w',(Builtin.append_ #[t,t] ty #[v,.slice (some a) 1 c]).run P w = .ok v' w'∧w'.ownsRow base e 1 v' (n+1) (xs++[u])∧Added w w' v v' n:=by
 have h1' : ∀ u'∈[u],u'.oneCell'=true:=by simpa using h1
 obtain ⟨v',w',hr,h2,h3,_,h4⟩:=run_append_own_at (P:=P) w base t ty e i z 1 bytes ht hi hz hsize hby hzs (by omega) v n xs hown a 1 c [u] rfl hnews h1' h63 hbytes hbase
 refine ⟨v',w',hr,h2,h3,?_,h4.imp id fun e g hg=>by rw [e] at hg;injection hg with hg;omega⟩
 rcases hown.2 with ⟨rfl,rfl⟩ | ⟨g,cap,cur,rfl,hbg,hg,hnc,hcm,hcs,htake⟩
 · intro g hg;cases hg
 · intro g1 hg1 cur1 e1 hc1;injection hg1 with hg1;change g=g1 at hg1;subst hg1;rw [hg] at hc1;injection hc1 with hc1;injection hc1 with hc1 hc2;subst hc1 hc2;by_cases hroom:n+1≤cap
   · have hr2:=run_append_room (P:=P) w t ty e i ht hi g n cap cur hg a 1 c [u] (by rw [hsize];rfl) hnews h1' hroom (by rw [hsize,hcs];simp;omega)
     rw [hr] at hr2;injection hr2 with e1 e2;subst e2;rw [hsize,Nat.mul_one];refine ⟨_,setRow_heap w g cur _ e _ hg,?_,?_⟩
     · simp only [List.size_toArray,List.length_append,List.length_take,List.length_drop,Array.length_toList,List.length_cons,List.length_nil];omega
     · simp only [List.append_assoc];rw [List.take_append_of_le_length (by rw [List.length_take,Array.length_toList];omega),List.take_take,Nat.min_self]
   · have holds : ∀ j u',xs[j]? = some u'→w.cell? ((⟨g,0,none⟩:Addr).add j)=some u':=hown.cells (g:=g) rfl;have hr2:=run_append_grow (P:=P) w t ty e i z ht hi hz ⟨g,0,none⟩ n cap xs (by rw [hsize];exact hown.1) holds a 1 c [u] (by rw [hsize];rfl) hnews (by omega) (by simp only [maxLen] at h63;omega) (growslice_fits (by omega) (by rw [hby];exact hbytes))
     rw [hr] at hr2;injection hr2 with e1 e2;subst e2;exact ⟨cur,(heap_alloc_old w.drew _ (Array.getElem?_eq_some_iff.1 hg).1).trans hg,rfl,rfl⟩
theorem zOL {P:Program} {w:World} {ops:Array Oper} {rest:List Oper} {o:Oper} {a:Act} {Q:Exit→Act→World→Prop} (hgd:o.guard=none) (s x:Operand) (t:TypeId)
 (ho:o.op = .call { callee:=.builtin .append,args:=#[s,x],argTypes:=#[t,t] })
 (e:TypeId) (z:Value) (bytes:Nat) (hbz:bytes≤24) (ht:P.underlying t=some (.slice e))
 (hi:(P.info? e).map (fun i=>(i.zero,i.size,i.bytes))=some (some z,1,bytes)) (hzs:z.cells.size=1)
 (B:Nat) (v:Value) (vs:List Value) (hs:a.eval s=v) (hown:Ownv w B e v vs) (u:Value) (hu1:u.oneCell'=true)
 (ad:Addr) (c:Nat) (hx:a.eval x = .slice (some ad) 1 c) (hcell:w.cell? ad=some u) (hlen:vs.length≤1000000000) (hbase:B≤w.heap.size)
 (h : ∀ v' w',Ownv w' B e v' (vs++[u])→Added w w' v v' vs.length→wpList P ops Q rest (a.put o.dst v') w') :
 wpList P ops Q (o::rest) a w:=by
 obtain ⟨i0,hi0,hz0,hz1,hz2⟩:=info_parts hi;refine wpList_plain hgd fun K hK=>?_
 have hnews : ∀ j u',[u][j]? = some u'→w.cell? (ad.add j)=some u':=by
  intro j u' hu
  match j with
  | 0=>simp at hu;subst hu;simpa [Addr.add] using hcell
  | j+1=>simp at hu
 obtain ⟨v',w',hr,h2,h3⟩:=zLk (P:=P) w B t o.type e i0 z bytes ht hi0 hz0 hz1 hz2 hzs v vs.length _ hown ad c u hnews hu1
  (by simp only [maxLen];omega) (by have:(vs.length+1) * bytes≤(vs.length+1) * 24:=Nat.mul_le_mul_left _ hbz;omega) hbase
 unfold Oper.wp execOp;simp only [ho,resolve,invoke,builtin,Sem.run_bind,Sem.run_pure,Result.andThen_ok,List.map_toArray,List.map_cons,List.map_nil,hs,hx,hr];exact hK _ _ (h v' w' (by unfold Ownv;simpa using h2) h3)
end
section
open Go.RowKit
open Oct
theorem zD7 {l:List Int} {n p:Nat} (hn:l.length=n):(strOfNums l).extract p n=strOfNums (l.drop p):=by
 rw [zMs,List.take_of_length_le (by rw [List.length_drop];omega)]
theorem zKX : ∀ (t:Tr),Tr.WF t → ∀ (r:List Int),Byt r→(Tr.enc t++r).length≤1000000000000000 → ∀ (w:World),
 Calls Tryz.prog 110 #[.string (strOfNums (Tr.enc t++r))] w fun e w'=>e = .returned (.int .i64 ((Tr.enc t).length:Int))∧w=w':=by
 intro t
 induction t with
 | uni c =>
   intro h r hr hl w;have hby:Byt (Tr.enc (.uni c)++r):=Byt.append (Tr.enc_byt _ h) hr;have hi0:=fun W:World=>zW (P:=Tryz.prog) 9 Tryz.underlying9 hby (k:=0) (x:=117) (by simp [Tr.enc]) W
   rw [show ((0:Nat):Int)=0 from rfl] at hi0;have he:((Tr.enc (.uni c)).length:Int)=2:=by simp [Tr.enc]
   rw [he];generalize strOfNums (Tr.enc (.uni c)++r)=S at *;clear hby he hl hr h;go_enter Tryz.func110,Tryz.ntmps110;go_wp2_with fail;go_ret;exact ⟨rfl,rfl⟩
 | brick l =>
   intro h r hr hl w;have h64:l.length=64:=h.1;have hby:Byt (Tr.enc (.brick l)++r):=Byt.append (Tr.enc_byt _ h) hr;have hi0:=fun W:World=>zW (P:=Tryz.prog) 9 Tryz.underlying9 hby (k:=0) (x:=98) (by simp [Tr.enc]) W
   rw [show ((0:Nat):Int)=0 from rfl] at hi0;have he:((Tr.enc (.brick l)).length:Int)=65:=by simp [Tr.enc,h64]
   rw [he];generalize strOfNums (Tr.enc (.brick l)++r)=S at *;clear hby he hl hr h h64;go_enter Tryz.func110,Tryz.ntmps110;go_wp2_with fail;go_ret;exact ⟨rfl,rfl⟩
 | node d ch ih =>
   intro h r hr hl w;have hw : ∀ i,Tr.WF (ch i):=h.2;have hby:Byt (Tr.enc (.node d ch)++r):=Byt.append (Tr.enc_byt _ h) hr;have hi0:=fun W:World=>zW (P:=Tryz.prog) 9 Tryz.underlying9 hby (k:=0) (x:=110) (by simp [Tr.enc]) W
   rw [show ((0:Nat):Int)=0 from rfl] at hi0;have hn:(Tr.enc (.node d ch)).length≤(Tr.enc (.node d ch)++r).length:=by rw [List.length_append];omega
   have hkid:=Bx.mk (fun (k:Nat) (hk:k<8) (n:Nat) (hn:(Tr.enc (.node d ch)++r).length=n)=>show
    (∃ r',Byt r'∧(Tr.enc (ch ⟨k,hk⟩)++r').length≤1000000000000000∧(strOfNums (Tr.enc (.node d ch)++r)).extract (Tr.pos ch k) n=strOfNums (Tr.enc (ch ⟨k,hk⟩)++r')) from by
     rw [zD7 hn,Tr.drop_pos d ch r hk];refine ⟨_,?_,?_,rfl⟩
     · have:=Byt.drop hby (Tr.pos ch k);rw [Tr.drop_pos d ch r hk] at this;exact fun x hx=>this x (List.mem_append_right _ hx)
     · rw [←Tr.drop_pos d ch r hk,List.length_drop];omega)
   have hple:=Bx.mk (fun k (hk:k≤8)=>Nat.le_trans (Tr.pos_le d ch hk) hn);have hps:=Bx.mk (fun k (hk:k<8)=>Tr.pos_succ ch hk);have hp0:=Tr.pos_zero ch;have hp8:=Tr.pos_all d ch;rw [←hp8];have Hw:=Bx.mk hw;have Hih:=Bx.mk ih;have hsz:(strOfNums (Tr.enc (.node d ch)++r)).size=(Tr.enc (.node d ch)++r).length:=strOfNums_size _;generalize strOfNums (Tr.enc (.node d ch)++r)=S at *;generalize (Tr.enc (.node d ch)++r).length=n at *;have Hp0:=Bx.mk hp0;clear hby hp8 hn hw ih hr h hp0;go_enter Tryz.func110,Tryz.ntmps110;go_wp2_with fail
   go_loop [3,4] (fun v3 v4 => ∃ k:Nat,k≤8∧v4 = .int .i64 k∧v3 = .int .i64 (Tr.pos ch k)) (fun _ i=>8 - (intOf i).toNat)
   case atStart=>exact ⟨0,Nat.zero_le _,rfl,by rw [Hp0.out];rfl⟩
   case round =>
    obtain ⟨k,hk,rfl,rfl⟩:=hrel;by_cases hlt:k<8
    · have t0:decide ((k:Int)<8)=true:=by simp;omega
      obtain ⟨r',hr',hl',hex⟩:=hkid.out k hlt n rfl;have hc:=Bx.mk fun W=>Hih.out ⟨k,hlt⟩ (Hw.out _) r' hr' hl' W;have hple1:=hple.out (k+1) (by omega)
      have hple0:=hple.out k (by omega)
      have hs:=hps.out k hlt;generalize hS2:strOfNums (Tr.enc (ch ⟨k,hlt⟩)++r')=S2 at *;have Hs:=Bx.mk (show ((Tr.pos ch (k+1):Nat):Int)=(Tr.pos ch k:Int)+((Tr.enc (ch ⟨k,hlt⟩)).length:Int) by omega)
      generalize (Tr.enc (ch ⟨k,hlt⟩)).length=m at *;generalize Tr.pos ch k=p at *;generalize hq:Tr.pos ch (k+1)=q at *;have b1:(0:Int)≤(p:Int):=by omega
      have b2:(p:Int)≤(n:Int):=by omega
      have b3:(p:Int)+(m:Int)≤1000000000000000:=by omega
      have Hq:=Bx.mk hq;clear hS2 hr' hl' hs hple0 hple1 hq;go_wp2_with (go_at_call 110;refine (hc.out _).mono ?_;rintro e w' ⟨rfl,rfl⟩);go_round
      case rel=>exact ⟨k+1,by omega,by go_num,by rw [Hq.out,Hs.out]⟩
      case measure=>simp [intOf];omega
    · obtain rfl:k=8:=by omega
      have t0:decide (((8:Nat):Int)<8)=false:=by decide
      go_wp2_with fail;go_ret;exact ⟨rfl,rfl⟩
def za (ch:Fin 8→Tr):List (List Int):=List.ofFn fun i=>Tr.enc (ch i)
theorem zb (ch:Fin 8→Tr):(za ch).length=8:=List.length_ofFn
theorem zF7 (ch:Fin 8→Tr) {k:Nat} (hk:k<8):(za ch)[k]? = some (Tr.enc (ch ⟨k,hk⟩)):=by
 unfold za;rw [List.getElem?_eq_getElem (by rw [List.length_ofFn];exact hk),List.getElem_ofFn]
theorem zF8 (ch:Fin 8→Tr) {k:Nat} (hk:k<8):(za ch).take (k+1)=(za ch).take k++[Tr.enc (ch ⟨k,hk⟩)]:=by
 have h:=zF7 ch hk;rw [List.take_succ_eq_append_getElem (by rw [zb];exact hk)]
 rw [List.getElem?_eq_getElem (by rw [zb];exact hk)] at h
 injection h with h;rw [h]
theorem zKR (d:Nat) (ch:Fin 8→Tr) (h:Tr.WF (.node d ch)) (hl:(Tr.enc (.node d ch)).length≤1000000000000000) (w:World) :
 Calls Tryz.prog 52 #[.string (strOfNums (Tr.enc (.node d ch)))] w fun e w' => ∃ g pc,e = .returned (.slice (some ⟨g,0,none⟩) 8 pc)∧Slv w' (some ⟨g,0,none⟩) (zy (za ch))∧(w.heap.size≤g∧g<w'.heap.size)∧Below w.heap.size w w':=by
 have hby:Byt (Tr.enc (.node d ch)):=Tr.enc_byt _ h
 have hkid:=Bx.mk (fun (k:Nat) (hk:k<8) (n:Nat) (hn:(Tr.enc (.node d ch)).length=n)=>show
  (∃ r',Byt r'∧(Tr.enc (ch ⟨k,hk⟩)++r').length≤1000000000000000∧(strOfNums (Tr.enc (.node d ch))).extract (Tr.pos ch k) n=strOfNums (Tr.enc (ch ⟨k,hk⟩)++r')
   ∧ (strOfNums (Tr.enc (.node d ch))).extract (Tr.pos ch k) (Tr.pos ch k+(Tr.enc (ch ⟨k,hk⟩)).length)=strOfNums (Tr.enc (ch ⟨k,hk⟩))) from by
   have hd:=Tr.drop_pos d ch [] hk;rw [List.append_nil] at hd;rw [zD7 hn,zMs,Nat.add_sub_cancel_left,hd];refine ⟨_,?_,?_,rfl,?_⟩
   · have:=Byt.drop hby (Tr.pos ch k);rw [hd] at this;exact fun x hx=>this x (List.mem_append_right _ hx)
   · rw [←hd,List.length_drop];omega
   · rw [List.take_left'] ; rfl)
 have hple:=Bx.mk (fun k (hk:k≤8)=>Tr.pos_le d ch hk);have hps:=Bx.mk (fun k (hk:k<8)=>Tr.pos_succ ch hk);have Hp0:=Bx.mk (Tr.pos_zero ch);have Hw:=Bx.mk (show ∀ i,Tr.WF (ch i) from h.2);have hsz:(strOfNums (Tr.enc (.node d ch))).size=(Tr.enc (.node d ch)).length:=strOfNums_size _;generalize strOfNums (Tr.enc (.node d ch))=S at *;generalize (Tr.enc (.node d ch)).length=n at *;clear hby h;go_enter Tryz.func52,Tryz.ntmps52;go_wp2_with fail
 go_loopw [3,4,5] (fun v3 v4 v5 wr => ∃ k:Nat,k≤8∧v5 = .int .i64 k∧v4 = .int .i64 (Tr.pos ch k)∧Bx (Ownv wr w.heap.size 9 v3 (zy ((za ch).take k)))∧Bx (Below w.heap.size w wr)) (fun _ _ i _=>8 - (intOf i).toNat)
 case atStart=>exact ⟨0,Nat.zero_le _,rfl,by rw [Hp0.out];rfl,⟨Ownv.nil _ _ _⟩,⟨Below.refl _ _⟩⟩
 case round =>
  obtain ⟨k,hk,rfl,rfl,hown,hbw⟩:=hrel;by_cases hlt:k<8
  · have t0:decide ((k:Int)<8)=true:=by simp;omega
    obtain ⟨r',hr',hl',hex,hex2⟩:=hkid.out k hlt n rfl;have hc:=Bx.mk fun W=>zKX (ch ⟨k,hlt⟩) (Hw.out _) r' hr' hl' W;have hple1:=hple.out (k+1) (by omega)
    have hple0:=hple.out k (by omega)
    have hs:=hps.out k hlt;have hnext:=Bx.mk (show zy ((za ch).take (k+1))=zy ((za ch).take k)++[.string (strOfNums (Tr.enc (ch ⟨k,hlt⟩)))] by rw [zF8 ch hlt,zMz])
    have Htl:=Bx.mk (show (zy ((za ch).take k)).length≤1000000000 by rw [zz,List.length_take];omega)
    generalize hS2:strOfNums (Tr.enc (ch ⟨k,hlt⟩)++r')=S2 at *;generalize strOfNums (Tr.enc (ch ⟨k,hlt⟩))=S3 at *;have Hs:=Bx.mk (show ((Tr.pos ch (k+1):Nat):Int)=(Tr.pos ch k:Int)+((Tr.enc (ch ⟨k,hlt⟩)).length:Int) by omega)
    generalize (Tr.enc (ch ⟨k,hlt⟩)).length=m at *;generalize Tr.pos ch k=p at *;generalize hq:Tr.pos ch (k+1)=q at *;have b1:(0:Int)≤(p:Int):=by omega
    have b2:(p:Int)≤(n:Int):=by omega
    have b3:(p:Int)+(m:Int)≤(n:Int):=by omega
    have hz:((p:Int)+(m:Int)).toNat=p+m:=by omega
    have Hq:=Bx.mk hq;have hle:=hbw.out.size;clear hS2 hr' hl' hs hple0 hple1 hq
    go_wp2_with (first
     | (go_at_call 110;refine (hc.out _).mono ?_;rintro e w' ⟨rfl,rfl⟩)
     | (at_builtin
        refine zAH rfl _ _ 37 rfl 9 (.string ByteArray.empty) 16 (by omega) Tryz.underlying37 (by kernel_rfl) rfl w.heap.size _ (zy ((za ch).take k)) rfl (hown.out.alloc _) (.string S3) rfl ⟨wr.heap.size,0,none⟩ 1 rfl (zH _ _ _) Htl.out (ze hle _) ?_
        intro v1 w1 hown1 hg1 _))
    have hown2:=Bx.mk hown1;rw [←hnext.out] at hown2;have hbw2:=Bx.mk ((hbw.out.alloc hle (.cells #[.string S3] 9)).grown hg1 (ze hle _) (fun g hg=>(hown.out.lt g hg).1));clear hown1 hg1;go_wp2_with fail
    go_roundw
    case rel=>exact ⟨k+1,by omega,by go_num,by rw [Hq.out,Hs.out],hown2,hbw2⟩
    case measure=>simp [intOf];omega
  · obtain rfl:k=8:=by omega
    have t0:decide (((8:Nat):Int)<8)=false:=by decide
    have hown2:=hown.out;rw [List.take_of_length_le (by rw [zb];exact Nat.le_refl _)] at hown2
    obtain ⟨g,pc,rfl,hsl,hlt2⟩:=hown2.form1 (by rw [zz,zb];decide)
    have Hl:=Bx.mk (show (zy (za ch)).length=8 by rw [zz,zb])
    have Hsl:=Bx.mk hsl;have Hlt:=Bx.mk hlt2;clear hsl hown2 hown hlt2;go_wp2_with fail;go_ret;exact ⟨g,pc,by rw [Hl.out];rfl,Hsl.out,Hlt.out,hbw.out⟩
end
section
open Go.RowKit Go.Sort
open Oct
def zLq (T:Nat→ByteArray) (k:Nat):Bool:=(List.range k).all fun j=>(T j).toList == (T 0).toList
theorem zLs (T:Nat→ByteArray) (k:Nat):zLq T (k+1)=(zLq T k && ((T k).toList == (T 0).toList)):=by
 unfold zLq;rw [List.range_succ,List.all_append];simp
theorem zMo (a b:ByteArray):(a.toList == b.toList)=true ↔ a=b:=by
 rw [beq_iff_eq];constructor
 · intro h;rw [ByteArray.toList_eq,ByteArray.toList_eq] at h;exact ByteArray.ext (Array.ext' h)
 · intro h;rw [h]
theorem zLr (T:Nat→ByteArray) (k:Nat):zLq T k=true ↔ ∀ j,j<k→T j=T 0:=by
 unfold zLq;rw [List.all_eq_true];simp only [List.mem_range,zMo]
def zF1 (ch:Fin 8→Tr) (k:Nat):ByteArray:=strOfNums ((za ch).getD k [])
theorem zF2 (ch:Fin 8→Tr) {k:Nat} (hk:k<8):zF1 ch k=strOfNums (Tr.enc (ch ⟨k,hk⟩)):=by
 unfold zF1;rw [List.getD_eq_getElem?_getD,zF7 ch hk];rfl
theorem zF3 {ch:Fin 8→Tr} (h : ∀ i,Tr.WF (ch i)) {k:Nat} (hk:k<8):zF1 ch k=zF1 ch 0 ↔ ch ⟨k,hk⟩=ch 0:=by
 rw [zF2 ch hk,zF2 ch (by omega:0<8)]
 constructor
 · intro e;have:=zMp (Tr.enc_byt _ (h _)) (Tr.enc_byt _ (h _)) e;exact (Tr.enc_eq (h _) (h _)).1 this
 · intro e;rw [e];rfl
theorem zLt {ch:Fin 8→Tr} (h : ∀ i,Tr.WF (ch i)):zLq (zF1 ch) 8=true ↔ ∀ i,ch i=ch 0:=by
 rw [zLr];constructor
 · intro e i;exact (zF3 h i.isLt).1 (e i.val i.isLt)
 · intro e j hj;exact (zF3 h hj).2 (e _)
def zAe (d:Nat) (ch:Fin 8→Tr) (k:Nat):ByteArray:=strOfNums (110::(d:Int)::((za ch).take k).flatten)
theorem zAh (d:Nat) (ch:Fin 8→Tr) {k:Nat} (hk:k<8):zAe d ch (k+1)=zAe d ch k++zF1 ch k:=by
 unfold zAe;rw [zF2 ch hk,zMr,zF8 ch hk,List.flatten_append];simp
theorem zAf (d:Nat) (ch:Fin 8→Tr):zAe d ch 8=strOfNums (Tr.enc (.node d ch)):=by
 unfold zAe;rw [List.take_of_length_le (by rw [zb];exact Nat.le_refl _),Tr.enc_node];rfl
theorem zAg (d:Nat) (ch:Fin 8→Tr) {k:Nat} (hk:k<8) (n:Nat) (hn:(Tr.enc (.node d ch)).length≤n):(zAe d ch k).size+(zF1 ch k).size≤n:=by
 rw [←ByteArray.size_append,←zAh d ch hk];unfold zAe;rw [strOfNums_size];have:=Tr.pos_le d ch (show k+1≤8 by omega)
 unfold Tr.pos at this;simp only [List.length_cons];unfold za;omega
theorem zDw (t:Tr) : ∃ b r,Tr.enc t=b::r∧((b == 117)=true ↔ ∃ c,t = .uni c):=by
 cases t with
 | uni c=>exact ⟨117,[c],by rw [Tr.enc],by simp⟩
 | brick l=>exact ⟨98,l,by rw [Tr.enc],by simp⟩
 | node d ch=>exact ⟨110,_,by rw [Tr.enc],by simp⟩
theorem zKW (d:Nat) (hd:d≤255) (ch:Fin 8→Tr) (h : ∀ i,Tr.WF (ch i)) (hl:(Tr.enc (.node d ch)).length≤1000000000000000) (a:Option Addr) (cap:Nat) (w:World) (hs:Slv w a (zy (za ch))) :
 Calls Tryz.prog 98 #[(d:Int),.slice a 8 cap] w fun e w'=>e = .returned (.string (strOfNums (Tr.enc (Tr.mkInner d ch))))∧Below w.heap.size w w':=by
 have hat : ∀ k,k<8→(zy (za ch))[k]? = some (.string (zF1 ch k)):=fun k hk=>by rw [zF2 ch hk];exact zMy (zF7 ch hk)
 obtain ⟨b,off,rfl,hc0⟩:=hs 0 _ (hat 0 (by omega))
 rw [Nat.add_zero] at hc0;obtain ⟨b0,r0,he0,hu0⟩:=zDw (ch 0);have hby:=Tr.enc_byt _ (h 0);have hi0:=fun W:World=>zW (P:=Tryz.prog) 9 Tryz.underlying9 hby (k:=0) (x:=b0) (by rw [he0];rfl) W
 rw [show ((0:Nat):Int)=0 from rfl,show strOfNums (Tr.enc (ch 0))=zF1 ch 0 from (zF2 ch (by omega)).symm] at hi0
 obtain ⟨u,hu⟩ : ∃ u,(b0 == 117)=u:=⟨_,rfl⟩;have hwd:IntKind.u8.wrap (d:Int)=d:=by unfold IntKind.wrap;simp [IntKind.bits,IntKind.signed];omega
 have hsl:Sl (w.alloc (.cells #[.int .u8 d] 5)) .u8 (some ⟨w.heap.size,0,none⟩) [(d:Int)]:=fun i x hx=>by
  match i with
  | 0=>simp at hx;subst hx;exact ⟨_,_,rfl,zH _ _ _⟩
  | i+1=>simp at hx
 have hcv:=zK (P:=Tryz.prog) 84 5 9 Tryz.underlying84 Tryz.underlying5 Tryz.underlying9 hsl 1 1 rfl;have hst:=Bx.mk (show (strOfNums [110])++strOfNums [(d:Int)]=zAe d ch 0 from zMr [110] [(d:Int)])
 have hend:=Bx.mk (show (u && zLq (zF1 ch) 8)=true→Tr.mkInner d ch=ch 0 from fun e=>by
  rw [Bool.and_eq_true] at e;unfold Tr.mkInner;rw [if_pos ⟨hu0.1 (hu.trans e.1),(zLt h).1 e.2⟩])
 have hend2:=Bx.mk (show (u && zLq (zF1 ch) 8)=false→Tr.mkInner d ch = .node d ch from fun e=>by
  unfold Tr.mkInner;rw [if_neg];rintro ⟨h1,h2⟩;rw [←hu,hu0.2 h1,(zLt h).2 h2] at e;cases e)
 have hacc:=Bx.mk fun k (hk:k<8)=>zAh d ch hk;have haccE:=Bx.mk (zAf d ch);have hasz:=Bx.mk fun k (hk:k<8)=>zAg d ch hk _ hl;have h1sz:(strOfNums [(d:Int)]).size=1:=by rw [strOfNums_size];rfl
 have hk0:=Bx.mk (zF2 ch (show 0<8 by omega))
 have Hs:=Bx.mk hs;have Hat:=Bx.mk hat
 have Hu:=Bx.mk hu;have Hhd:=Bx.mk hd;clear hs hat hby he0 hu0 h hsl hd hl;go_enter Tryz.func98,Tryz.ntmps98;go_wp2_with fail;generalize hW:World.alloc w _=W;have HB:=Bx.mk (show Below w.heap.size w W from by rw [←hW];exact (Below.refl _ _).alloc (Nat.le_refl _) _)
 clear hW hcv hc0 hi0 h1sz;clear hu
 go_loopw [5,6,7] (fun v5 v6 v7 wr => ∃ k:Nat,k≤8∧v7 = .int .i64 k∧v5 = .bool (u && zLq (zF1 ch) k)∧v6 = .string (zAe d ch k)∧Bx (Below w.heap.size w wr)) (fun _ _ i _=>8 - (intOf i).toNat)
 case atStart=>exact ⟨0,Nat.zero_le _,rfl,by rw [show zLq (zF1 ch) 0=true from rfl,Bool.and_true],by rw [←hst.out];rfl,HB⟩
 case round =>
  clear HB;obtain ⟨k,hk,rfl,rfl,rfl,HB⟩:=hrel;obtain ⟨b1,off1,he1,hc0⟩:=(Hs.out.below HB.out) 0 _ (Hat.out 0 (by omega))
  simp only [Option.some.injEq,Addr.mk.injEq,and_true] at he1;obtain ⟨rfl,rfl⟩:=he1;rw [Nat.add_zero] at hc0;by_cases hlt:k<8
  · have t0:decide ((k:Int)<8)=true:=by simp;omega
    obtain ⟨b1,off1,he1,hck⟩:=(Hs.out.below HB.out) k _ (Hat.out k hlt);simp only [Option.some.injEq,Addr.mk.injEq,and_true] at he1;obtain ⟨rfl,rfl⟩:=he1;have b1':(0:Int)≤(k:Int):=by omega
    have b2:(k:Int)<8:=by omega
    have hacc1:=Bx.mk (hacc.out k hlt);have hz1:=hasz.out k hlt;have hsn:=Bx.mk (zLs (zF1 ch) k);have Hc0:=Bx.mk hc0;have Hck:=Bx.mk hck;cases hq:(u && zLq (zF1 ch) k) with
    | false =>
      clear hc0 hck;go_wp2_with fail;refine wp_region_quiet_below (by kernel_rfl) (by kernel_rfl) ?_
      repeat (first | go_big_quiet_step ((fail)) | quiet_step (fail))
      refine wpQuiet_nil ?_;rintro _ ⟨⟨dq,osq⟩,rfl⟩;have hb0:=below_regrown wr dq osq;have hck:=cell_later hb0 Hck.out;replace HB:=Bx.mk (HB.out.trans (hb0.mono HB.out.size));clear hb0;generalize grow (redrawn wr dq) osq=w7 at *;go_wp2_with fail
      go_roundw
      case rel=>exact ⟨k+1,by omega,by go_num,by rw [hsn.out,←Bool.and_assoc,hq];rfl,by rw [hacc1.out],HB⟩
      case measure=>simp [intOf];omega
    | true =>
      have qc1 : ∀ dk osk,(grow (redrawn wr dk) osk).cell? ⟨b,off+k,none⟩=some (.string (zF1 ch k)):=cell_regrown Hck.out;have qc2 : ∀ dk osk,(grow (redrawn wr dk) osk).cell? ⟨b,off,none⟩=some (.string (zF1 ch 0)):=cell_regrown Hc0.out;clear hc0 hck;go_wp2_with fail;refine wp_region_quiet_below (by kernel_rfl) (by kernel_rfl) ?_
      repeat (first | go_big_quiet_step ((fail)) | quiet_step (fail))
      refine wpQuiet_nil ?_;rintro _ ⟨⟨dq,osq⟩,rfl⟩;have hb0:=below_regrown wr dq osq;have hck:=cell_later hb0 Hck.out;replace HB:=Bx.mk (HB.out.trans (hb0.mono HB.out.size));clear hb0 qc1 qc2;generalize grow (redrawn wr dq) osq=w7 at *;go_wp2_with fail
      go_roundw
      case rel=>exact ⟨k+1,by omega,by go_num,by rw [hsn.out,←Bool.and_assoc,hq];rfl,by rw [hacc1.out],HB⟩
      case measure=>simp [intOf];omega
  · obtain rfl:k=8:=by omega
    have t0:decide (((8:Nat):Int)<8)=false:=by decide
    cases hq:(u && zLq (zF1 ch) 8) with
    | true =>
      have He:=Bx.mk (hend.out hq);clear hq;go_wp2_with fail;go_ret;exact ⟨by rw [He.out];show Ending.returned (.string (zF1 ch 0))=_;rw [hk0.out];rfl,HB.out⟩
    | false =>
      have He:=Bx.mk (hend2.out hq);clear hq;go_wp2_with fail;go_ret;exact ⟨by rw [He.out];show Ending.returned (.string (zAe d ch 8))=_;rw [haccE.out],HB.out⟩
end
section
open Go.RowKit Go.Sort Go.Maps
open Oct
theorem zKY (c:Int) (hc:0≤c∧c≤255) (w:World) :
 Calls Tryz.prog 94 #[c] w fun e w'=>e = .returned (.string (strOfNums (Tr.enc (.uni c))))∧Below w.heap.size w w':=by
 have hw:IntKind.u8.wrap c=c:=by unfold IntKind.wrap;simp [IntKind.bits,IntKind.signed];omega
 have hsl:Sl (w.alloc (.cells #[.int .u8 c] 5)) .u8 (some ⟨w.heap.size,0,none⟩) [c]:=fun i x hx=>by
  match i with
  | 0=>simp at hx;subst hx;exact ⟨_,_,rfl,zH _ _ _⟩
  | i+1=>simp at hx
 have hcv:=zK (P:=Tryz.prog) 84 5 9 Tryz.underlying84 Tryz.underlying5 Tryz.underlying9 hsl 1 1 rfl;have hst:=Bx.mk (show (strOfNums [117])++strOfNums [c]=strOfNums (Tr.enc (.uni c)) from zMr [117] [c]);clear hsl;go_enter Tryz.func94,Tryz.ntmps94;go_wp2_with fail;go_ret;exact ⟨by first | (rw [←hst.out];rfl) | trace_state,(Below.refl _ _).alloc (Nat.le_refl _) _⟩
def zLn (xs:List Int) (k:Nat):Bool:=(xs.take k).all fun x=>x == xs.headD 0
theorem zLp {xs:List Int} {k:Nat} {x:Int} (h:xs[k]? = some x):zLn xs (k+1)=(zLn xs k && (x == xs.headD 0)):=by
 unfold zLn;rw [zAA h,List.all_append];simp
theorem zLo {xs:List Int} {n:Nat} (hn:xs.length=n):zLn xs n=true ↔ ∀ x∈xs,x=xs.headD 0:=by
 unfold zLn;rw [List.take_of_length_le (by omega),List.all_eq_true]
 simp
theorem zKP (a:Option Addr) (cap:Nat) (xs:List Int) (w:World) (hn:xs.length=64) (hb:xs.all Pal.cell=true) (h:Sl w .i64 a xs) :
 Calls Tryz.prog 96 #[.slice a 64 cap] w fun e w'=>e = .returned (.string (strOfNums (Tr.enc (Tr.mkBrick xs))))∧Below w.heap.size w w':=by
 have hcells:=zA8 hb;obtain ⟨x0,hx0⟩ : ∃ x,xs[0]? = some x:=⟨_,List.getElem?_eq_getElem (by omega)⟩
 obtain ⟨b,off,rfl,hc0⟩:=h 0 x0 hx0
 have hd:xs.headD 0=x0:=by cases xs with
  | nil=>simp at hx0
  | cons y r=>simpa using hx0
 rw [Nat.add_zero] at hc0;have Hs:=Bx.mk h;have Hn:=Bx.mk hn;have Hc:=Bx.mk hcells;have Hd:=Bx.mk hd;have Hx0:=Bx.mk hx0;have Hc0:=Bx.mk hc0;have hu:=Bx.mk fun W=>zKY x0 (hcells x0 (List.mem_of_getElem? hx0)) W;clear h hn hb hcells hd hx0 hc0;go_enter Tryz.func96,Tryz.ntmps96;go_wp2_with fail
 go_loopw [3,4,5] (fun v s i wr => ∃ k:Nat,k≤64∧i = .int .i64 k∧s = .bool (zLn xs k)∧Bx (Own wr w.heap.size 5 .u8 v (xs.take k))∧Bx (Below w.heap.size w wr)) (fun _ _ i _=>64 - (intOf i).toNat)
 case atStart=>exact ⟨0,Nat.zero_le _,rfl,rfl,⟨Own.nil _ _ _ _⟩,⟨Below.refl _ _⟩⟩
 case round =>
  obtain ⟨k,hk,rfl,rfl,hown,hbw⟩:=hrel;have hc0:=(Hs.out.below hbw.out) 0 x0 Hx0.out;obtain ⟨b0,off0,hbo0,hc0⟩:=hc0;simp only [Option.some.injEq,Addr.mk.injEq,and_true] at hbo0;obtain ⟨rfl,rfl⟩:=hbo0;rw [Nat.add_zero] at hc0;by_cases hlt:k<64
  · obtain ⟨x,hx⟩:=zBT Hn hlt;obtain ⟨b',off',hbo,hc⟩:=(Hs.out.below hbw.out) k x hx;simp only [Option.some.injEq,Addr.mk.injEq,and_true] at hbo;obtain ⟨rfl,rfl⟩:=hbo;have hr:=Hc.out x (List.mem_of_getElem? hx);have hnext:=Bx.mk (zAA hx);have hsn:=Bx.mk (zLp hx);have b3:(0:Int)≤(k:Int):=by omega
    have b4:(k:Int)<64:=by omega
    have hwrap:IntKind.u8.wrap x=x:=by unfold IntKind.wrap;simp [IntKind.bits,IntKind.signed];omega
    have hle:=hbw.out.size;have Htl:=Bx.mk (show (xs.take k).length≤1000000000 by rw [List.length_take];omega)
    have Hcw:=Bx.mk hc;have Hcw0:=Bx.mk hc0;have HX:=Bx.mk hx;clear hx
    go_wp2_with (first
     | (at_builtin
        refine zAF rfl _ _ 84 rfl 5 .u8 (.int .u8 0) 1 (by omega) Tryz.underlying84 (by kernel_rfl) rfl w.heap.size _ (xs.take k) rfl (hown.out.alloc _) x ⟨wr.heap.size,0,none⟩ 1 rfl (zH _ _ _) Htl.out (ze hle _) ?_
        intro v1 w1 hown1 hg1 _))
    have hown2:=Bx.mk hown1;rw [←hnext.out] at hown2;have hbw2:=Bx.mk ((hbw.out.alloc hle (.cells #[.int .u8 x] 5)).grown hg1 (ze hle _) (fun g hg=>(hown.out.lt g hg).1));have hc1:=(Hs.out.below hbw2.out) k x HX.out;have hc2:=(Hs.out.below hbw2.out) 0 x0 Hx0.out;obtain ⟨b3',off3,hbo3,hc1⟩:=hc1;simp only [Option.some.injEq,Addr.mk.injEq,and_true] at hbo3;obtain ⟨rfl,rfl⟩:=hbo3;obtain ⟨b4',off4,hbo4,hc2⟩:=hc2;simp only [Option.some.injEq,Addr.mk.injEq,and_true] at hbo4;obtain ⟨rfl,rfl⟩:=hbo4;rw [Nat.add_zero] at hc2;have Hc1:=Bx.mk hc1;have Hc2:=Bx.mk hc2;clear hown1 hg1 hc hc0 hc1 hc2 hown hbw hle Hcw Hcw0;cases hq:zLn xs k with
    | false =>
      refine wp_region_quiet_below (by kernel_rfl) (by kernel_rfl) ?_
      repeat (first | go_big_quiet_step ((fail)) | quiet_step (fail))
      refine wpQuiet_nil ?_;rintro _ ⟨⟨dq,osq⟩,rfl⟩;have hb0:=below_regrown w1 dq osq;replace hown2:=Bx.mk (hown2.out.below hb0);replace hbw2:=Bx.mk (hbw2.out.trans (hb0.mono hbw2.out.size));generalize grow (redrawn w1 dq) osq=w7 at *;go_wp2_with fail
      go_roundw
      case rel=>exact ⟨k+1,by omega,by go_num,by rw [hsn.out,hq];rfl,hown2,hbw2⟩
      case measure=>simp [intOf];omega
    | true =>
      have qc1 : ∀ dk osk,(grow (redrawn w1 dk) osk).cell? ⟨b,off+k,none⟩=some (.int .i64 x):=cell_regrown Hc1.out;have qc2 : ∀ dk osk,(grow (redrawn w1 dk) osk).cell? ⟨b,off,none⟩=some (.int .i64 x0):=cell_regrown Hc2.out;refine wp_region_quiet_below (by kernel_rfl) (by kernel_rfl) ?_
      repeat (first | go_big_quiet_step ((fail)) | quiet_step (fail))
      refine wpQuiet_nil ?_;rintro _ ⟨⟨dq,osq⟩,rfl⟩;have hb0:=below_regrown w1 dq osq;replace hown2:=Bx.mk (hown2.out.below hb0);replace hbw2:=Bx.mk (hbw2.out.trans (hb0.mono hbw2.out.size));generalize grow (redrawn w1 dq) osq=w7 at *;go_wp2_with fail
      go_roundw
      case rel=>exact ⟨k+1,by omega,by go_num,by rw [hsn.out,hq,Hd.out];rfl,hown2,hbw2⟩
      case measure=>simp [intOf];omega
  · obtain rfl:k=64:=by omega
    have hfull:=Bx.mk (show xs.take 64=xs from List.take_of_length_le (by rw [Hn.out];omega))
    cases hq:zLn xs 64 with
    | true =>
      have hm:Tr.mkBrick xs = .uni x0:=by unfold Tr.mkBrick;rw [if_pos ((zLo Hn.out).1 hq),Hd.out]
      have Hm:=Bx.mk hm;clear hm hq;go_wp2_with fail;refine (hu.out _).mono ?_;rintro _ w2 ⟨rfl,hb2⟩;go_wp2_with fail;go_ret;exact ⟨by rw [Hm.out];rfl,hbw.out.trans (hb2.mono hbw.out.size)⟩
    | false =>
      have hm:Tr.mkBrick xs = .brick xs:=by unfold Tr.mkBrick;rw [if_neg (fun e=>by rw [(zLo Hn.out).2 e] at hq;cases hq)]
      have Hm:=Bx.mk hm;have hown2:=hown.out;rw [hfull.out] at hown2;obtain ⟨pa,pc,rfl,hsl⟩:=hown2.form;have hcv:=zK (P:=Tryz.prog) 84 5 9 Tryz.underlying84 Tryz.underlying5 Tryz.underlying9 hsl xs.length pc rfl;have hsz:(strOfNums xs).size=64:=by rw [strOfNums_size,Hn.out]
      have hst:=Bx.mk (show (strOfNums [98])++strOfNums xs=strOfNums (Tr.enc (.brick xs)) from zMr [98] xs);clear hm hq hsl hown2 hown;go_wp2_with fail;go_ret;exact ⟨by rw [Hm.out,←hst.out];rfl,hbw.out⟩
end
end Go.Proofs.YtgnfgblkpnfcnaaGreatDoor
