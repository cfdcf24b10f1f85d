/- Stl, Dk, Mem, Row, ApE: joined by program, for one claim. -/
import Derived.Test.YtajhkncolbgkbaaDoorM2
import Derived.Test.YtajhkncolbgkbaaDoorM1
import Derived.Deep.MidRow
import Derived.Laws.Tables
import Derived.Maps.OwnSet
import Derived.Deep.QuietTactic
import Derived.Laws.CopyRow
import Derived.Maps.AppendAt
import Derived.Deep.Onto
import Derived.Deep.AppendSrc
import Derived.Deep.Upon
set_option linter.unusedVariables false
set_option linter.unusedSimpArgs false
namespace Go.Proofs.YtajhkncolbgkbaaDoor
section
open Go.RowKit
def Slv (w:World) (a:Option Addr) (vs:List Value):Prop := ∀ i v,vs[i]? = some v → ∃ b off,a=some ⟨b,off,none⟩∧w.cell? ⟨b,off+i,none⟩=some v
theorem Slv.nil (w:World) (a:Option Addr):Slv w a []:=fun i x h=>by simp at h
theorem Slv.below {w w':World} {a:Option Addr} {vs:List Value} (h:Slv w a vs) (hb:Below w.heap.size w w'):Slv w' a vs:=by
 intro i x hx
 obtain ⟨b,off,rfl,hc⟩:=h i x hx
 exact ⟨b,off,rfl,cell_later hb hc⟩
def Ownv (w:World) (B:Nat) (e:TypeId) (v:Value) (vs:List Value):Prop:=w.ownsRow B e 1 v vs.length vs
theorem Ownv.nil (w:World) (B:Nat) (e:TypeId):Ownv w B e (.slice none 0 0) []:=World.ownsRow_nil w B e 1
theorem Ownv.form {w:World} {B:Nat} {e:TypeId} {v:Value} {vs:List Value} (h:Ownv w B e v vs) : ∃ a cap,v = .slice a vs.length cap∧Slv w a vs:=by
 rcases h.2 with ⟨rfl,hn⟩ | ⟨g,cap,cur,rfl,hb,hg,hnc,hcm,hcs,ht⟩
 · have hx:vs=[]:=List.eq_nil_of_length_eq_zero hn
   subst hx
   exact ⟨none,0,rfl,Slv.nil _ _⟩
 · refine ⟨_,cap,rfl,fun i x hx=>⟨g,0,rfl,?_⟩⟩
   have hi:i<vs.length:=(List.getElem?_eq_some_iff.1 hx).1
   have hcell:w.cell? ⟨g,i,none⟩=cur[i]? := by simp [World.cell?,hg]
   rw [Nat.zero_add,hcell]
   rw [←ht,List.getElem?_take,if_pos (by omega)] at hx
   simpa using hx
theorem Ownv.form1 {w:World} {B:Nat} {e:TypeId} {v:Value} {vs:List Value} (h:Ownv w B e v vs) (hn:0<vs.length) : ∃ g cap,v = .slice (some ⟨g,0,none⟩) vs.length cap∧Slv w (some ⟨g,0,none⟩) vs∧B≤g∧g<w.heap.size:=by
 obtain ⟨a,cap,he,hs⟩:=h.form
 rcases h.2 with ⟨_,hz⟩ | ⟨g,cap',cur,hv,hb,hg,_⟩
 · omega
 · rw [hv] at he
   injection he with h1 h2 h3
   exact ⟨g,cap',hv,by rw [h1];exact hs,hb,(Array.getElem?_eq_some_iff.1 hg).1⟩
theorem Slv.grown {w w':World} {g off:Nat} {vs:List Value} {row:Option Nat} (h:Slv w (some ⟨g,off,none⟩) vs) (hg:w.grownBy w' row) (hne:row ≠ some g):Slv w' (some ⟨g,off,none⟩) vs:=by
 intro i x hx
 obtain ⟨b,o,he,hc⟩:=h i x hx
 simp only [Option.some.injEq,Addr.mk.injEq,and_true] at he
 obtain ⟨rfl,rfl⟩:=he
 refine ⟨_,_,rfl,?_⟩
 have hlt:=World.block_lt_of_cell? w _ hc
 rw [World.cell?_of_block (hg.block _ hlt (fun e=>hne e.symm))];exact hc
theorem Ownv.sl {w:World} {B:Nat} {e:TypeId} {a:Option Addr} {n c:Nat} {vs:List Value} (h:Ownv w B e (.slice a n c) vs):Slv w a vs:=by
 obtain ⟨a',c',he,hs⟩:=h.form
 injection he with h1 h2 h3
 subst h1;exact hs
theorem Ownv.lt {w:World} {B:Nat} {e:TypeId} {v:Value} {vs:List Value} (h:Ownv w B e v vs) : ∀ g,v.ownBlock=some g→B≤g∧g<w.heap.size:=World.ownsRow.lt h
theorem Ownv.below {w w':World} {B:Nat} {e:TypeId} {v:Value} {vs:List Value} (h:Ownv w B e v vs) (hb:Below w.heap.size w w'):Ownv w' B e v vs :=
 World.ownsRow.kept (row:=none) h ⟨hb.os,hb.tape,hb.output,hb.size,fun i hi _=>hb.block i hi⟩ (by cases v.ownBlock <;> simp)
theorem Ownv.alloc {w:World} {B:Nat} {e:TypeId} {v:Value} {vs:List Value} (h:Ownv w B e v vs) (o:Obj):Ownv (w.alloc o) B e v vs:=World.ownsRow.alloc h o
theorem Ownv.base {w:World} {B B':Nat} {e:TypeId} {v:Value} {vs:List Value} (h:Ownv w B e v vs) (hB:B'≤B):Ownv w B' e v vs:=by
 refine ⟨h.1,h.2.imp id ?_⟩
 rintro ⟨g,cap,cur,h1,h2,h3⟩
 exact ⟨g,cap,cur,h1,Nat.le_trans hB h2,h3⟩
theorem Ownv.grown {w w':World} {B:Nat} {e:TypeId} {v:Value} {vs:List Value} (h:Ownv w B e v vs) {row:Option Nat} (hg:w.grownBy w' row) (hne:v.ownBlock=none∨v.ownBlock ≠ row):Ownv w' B e v vs:=World.ownsRow.kept h hg hne
theorem wpList_append_val {P:Program} {w:World} {ops:Array Oper} {rest:List Oper} {o:Oper} {a:Act} {Q:Exit→Act→World→Prop} (hgd:o.guard=none) (s x:Operand) (t:TypeId)
 (ho:o.op = .call { callee:=.builtin .append,args:=#[s,x],argTypes:=#[t,t] })
 (e:TypeId) (z:Value) (bytes:Nat) (hbz:bytes≤24) (ht:P.underlying t=some (.slice e))
 (hi:(P.info? e).map (fun i=>(i.zero,i.size,i.bytes))=some (some z,1,bytes)) (hzs:z.cells.size=1)
 (B:Nat) (v:Value) (vs:List Value) (hs:a.eval s=v) (hown:Ownv w B e v vs) (u:Value) (hu1:u.oneCell'=true)
 (ad:Addr) (c:Nat) (hx:a.eval x = .slice (some ad) 1 c) (hcell:w.cell? ad=some u) (hlen:vs.length≤1000000000) (hbase:B≤w.heap.size)
 (h : ∀ v' w',Ownv w' B e v' (vs++[u])→w.grownBy w' v.ownBlock→(v'.ownBlock=v.ownBlock∨v'.ownBlock=some w.heap.size)→wpList P ops Q rest (a.put o.dst v') w') :
 wpList P ops Q (o::rest) a w:=by
 obtain ⟨i0,hi0,hz0,hz1,hz2⟩:=info_parts hi
 refine wpList_plain hgd fun K hK=>?_
 have hnews : ∀ j u',[u][j]? = some u'→w.cell? (ad.add j)=some u':=by
  intro j u' hu
  match j with
  | 0=>simp at hu;subst hu;simpa [Addr.add] using hcell
  | j+1=>simp at hu
 obtain ⟨v',w',hr,h2,h3,_,h4⟩:=run_append_own_at (P:=P) w B t o.type e i0 z 1 bytes ht hi0 hz0 hz1 hz2 hzs (by omega) v vs.length _ hown ad 1 c [u] rfl hnews (by simpa using hu1)
  (by simp only [maxLen];omega) (by have:(vs.length+1) * bytes≤(vs.length+1) * 24:=Nat.mul_le_mul_left _ hbz;omega) hbase
 unfold Oper.wp execOp
 simp only [ho,resolve,invoke,builtin,Sem.run_bind,Sem.run_pure,Result.andThen_ok,List.map_toArray,List.map_cons,List.map_nil,hs,hx,hr]
 exact hK _ _ (h v' w' (by unfold Ownv;simpa using h2) h3 h4)
def strs (ls:List (List Int)):List Value:=ls.map fun l=>.string (strOfNums l)
theorem strs_length (ls:List (List Int)):(strs ls).length=ls.length:=by unfold strs;rw [List.length_map]
theorem strs_at {ls:List (List Int)} {i:Nat} {l:List Int} (h:ls[i]? = some l):(strs ls)[i]? = some (.string (strOfNums l)):=by unfold strs;rw [List.getElem?_map,h];rfl
theorem strs_snoc (ls:List (List Int)) (l:List Int):strs (ls++[l])=strs ls++[.string (strOfNums l)]:=by unfold strs;rw [List.map_append];rfl
def RowKeeps (w w':World) (v:Value) (n:Nat):Prop := ∀ g,v.ownBlock=some g → ∀ cur e,w.heap[g]? = some (.cells cur e (0,0)) → ∃ cur',w'.heap[g]? = some (.cells cur' e (0,0))∧cur'.size=cur.size∧cur'.toList.take n=cur.toList.take n
structure Added (w w':World) (v v':Value) (n:Nat):Prop where
 grown:w.grownBy w' v.ownBlock
 keeps:RowKeeps w w' v n
 where_:v'.ownBlock=v.ownBlock ∨ ∀ g,v'.ownBlock=some g→w.heap.size≤g
theorem Added.refl (w:World) (v:Value) (n:Nat):Added w w v v n:=⟨⟨rfl,rfl,rfl,Nat.le_refl _,fun _ _ _=>rfl⟩,fun _ _ cur _e h=>⟨cur,h,rfl,rfl⟩,.inl rfl⟩
theorem Added.below {w w1 w':World} {v v':Value} {n:Nat} (h:Added w w1 v v' n) (hb:Below w1.heap.size w1 w'):Added w w' v v' n:=by
 refine ⟨⟨hb.os.trans h.grown.os,hb.tape.trans h.grown.tape,hb.output.trans h.grown.output,Nat.le_trans h.grown.size hb.size,fun k hk hne=>(hb.block k (Nat.lt_of_lt_of_le hk h.grown.size)).trans (h.grown.block k hk hne)⟩,fun g hg cur e hc=>?_,h.where_⟩
 obtain ⟨cur',h1,h2,h3⟩:=h.keeps g hg cur e hc
 exact ⟨cur',(hb.block g (Array.getElem?_eq_some_iff.1 h1).1).trans h1,h2,h3⟩
theorem Added.after {w w1 w':World} {v v':Value} {n:Nat} (hb:Below w.heap.size w w1) (h:Added w1 w' v v' n) (hv : ∀ g,v.ownBlock=some g→g<w.heap.size):Added w w' v v' n:=by
 refine ⟨⟨h.grown.os.trans hb.os,h.grown.tape.trans hb.tape,h.grown.output.trans hb.output,Nat.le_trans hb.size h.grown.size,fun k hk hne=>(h.grown.block k (Nat.lt_of_lt_of_le hk hb.size) hne).trans (hb.block k hk)⟩,fun g hg cur e hc=>?_,?_⟩
 · exact h.keeps g hg cur e ((hb.block g (hv g hg)).trans hc)
 · rcases h.where_ with h1 | h1
   · exact .inl h1
   · exact .inr fun g hg=>Nat.le_trans hb.size (h1 g hg)
theorem Added.trans {w w1 w':World} {v v1 v':Value} {n m:Nat} (h:Added w w1 v v1 n) (h':Added w1 w' v1 v' m) (hnm:n≤m) (hlt : ∀ g,v.ownBlock=some g→g<w.heap.size):Added w w' v v' n:=by
 have hne : ∀ k,k<w.heap.size→some k ≠ v.ownBlock→some k ≠ v1.ownBlock:=fun k hk hne e=>by
  rcases h.where_ with h1 | h1
  · exact hne (by rw [←h1];exact e)
  · have:=h1 k e.symm;omega
 refine ⟨⟨h'.grown.os.trans h.grown.os,h'.grown.tape.trans h.grown.tape,h'.grown.output.trans h.grown.output,Nat.le_trans h.grown.size h'.grown.size,fun k hk hn=>(h'.grown.block k (Nat.lt_of_lt_of_le hk h.grown.size) (hne k hk hn)).trans (h.grown.block k hk hn)⟩,fun g hg cur e hc=>?_,?_⟩
 · obtain ⟨cur1,h1,h2,h3⟩:=h.keeps g hg cur e hc
   rcases h.where_ with he | he
   · obtain ⟨cur',h4,h5,h6⟩:=h'.keeps g (by rw [he];exact hg) cur1 e h1
     refine ⟨cur',h4,h5.trans h2,?_⟩
     have:cur'.toList.take n=cur1.toList.take n:=by
      have h7:=congrArg (List.take n) h6
      rwa [List.take_take,List.take_take,Nat.min_eq_left hnm] at h7
     exact this.trans h3
   · refine ⟨cur1,(h'.grown.block g (Array.getElem?_eq_some_iff.1 h1).1 fun e1=>?_).trans h1,h2,h3⟩
     have:=he g e1.symm
     have:=hlt g hg
     omega
 · rcases h'.where_ with he | he
   · rw [he];exact h.where_
   · exact .inr fun g hg=>Nat.le_trans h.grown.size (he g hg)
theorem Ownv.keep {w w':World} {v v' u:Value} {n B:Nat} {e:TypeId} {vs:List Value} (h:Added w w' v v' n) (hu:Ownv w B e u vs) (hn:vs.length≤n):Ownv w' B e u vs:=by
 by_cases hs:u.ownBlock=v.ownBlock
 · refine ⟨hu.1,?_⟩
   rcases hu.2 with h1 | ⟨g,cap,cur,rfl,hb,hg,hnc,hcm,hcs,ht⟩
   · exact .inl h1
   · obtain ⟨cur',h1,h2,h3⟩:=h.keeps g (by rw [←hs];rfl) cur e hg
     refine .inr ⟨g,cap,cur',rfl,hb,h1,hnc,hcm,h2.trans hcs,?_⟩
     rw [Nat.mul_one] at ht ⊢
     have h7:=congrArg (List.take vs.length) h3
     rw [List.take_take,List.take_take,Nat.min_eq_left hn] at h7
     exact h7.trans ht
 · exact Ownv.grown hu h.grown (.inr hs)
end
section
abbrev Pg:=List Int × Option (List Int)
structure Dk where
 p:List Pg
 off:Bool
 trip:Int
def zer:List Int:=List.replicate 128 0
def PgOk (x:Pg):Prop:=x.1.length=128∧Byt x.1 ∧ ∀ n,x.2=some n→n.length=128∧Byt n
structure DkOk (d:Dk):Prop where
 pages : ∀ x∈d.p,PgOk x
 lo : -1≤d.trip
 hi:d.trip≤9223372036854775807
 few:d.p.length≤120
theorem byt_zer:Byt zer:=fun x hx=>by unfold zer at hx;rw [List.mem_replicate] at hx;omega
theorem zer_len:zer.length=128:=List.length_replicate ..
def Pg.now (x:Pg):List Int:=x.2.getD x.1
theorem PgOk.now {x:Pg} (h:PgOk x):x.now.length=128∧Byt x.now:=by
 obtain ⟨a,b⟩:=x
 cases b with
 | none=>exact ⟨h.1,h.2.1⟩
 | some n=>exact h.2.2 n rfl
def Pg.settle (c:Nat) (x:Pg):Pg:=match x.2 with
 | none=>x
 | some n=>(n.take c++x.1.drop c,none)
theorem PgOk.settle {x:Pg} (h:PgOk x) (c:Nat):PgOk (x.settle c):=by
 obtain ⟨a,b⟩:=x
 cases b with
 | none=>exact h
 | some n =>
   obtain ⟨h1,h2,h3⟩:=h
   obtain ⟨h4,h5⟩:=h3 n rfl
   refine ⟨?_,?_,fun n hn=>by cases hn⟩
   · simp only [Pg.settle,List.length_append,List.length_take,List.length_drop]
     simp only at h1
     omega
   · exact (h5.take c).append (h2.drop c)
def isPend (p:List Pg) (i:Nat):Bool:=(p[i]?.bind (·.2)).isSome
def Dk.is (d:Dk) (i:Int):Bool:=decide (0≤i) && decide (i<d.p.length)
def Dk.step (d:Dk):Dk × Bool :=
 if d.trip=0 then ({ d with off:=true },false) else if 0<d.trip then ({ d with trip:=d.trip - 1 },true) else (d,true)
def mkDk (pages:Nat):Dk:=⟨List.replicate pages (zer,none),false,-1⟩
def eDown:Int:=20
def eArg:Int:=1
def Dk.read (d:Dk) (i:Int):List Int × Int :=
 if d.off=true then ([],eDown) else if d.is i=false then ([],eArg) else ((d.p[i.toNat]?.map Pg.now).getD [],0)
def put (old:List Int) (at_:Nat) (s:List Int):List Int:=old.take at_++s++old.drop (at_+s.length)
def Dk.write (d:Dk) (i at_:Int) (s:List Int):Dk × Int :=
 if d.off=true then (d,eDown) else if (d.is i && decide (0≤at_) && decide (at_≤128) && decide ((s.length:Int)≤128 - at_))=false then (d,eArg)
 else if d.step.2=false then (d.step.1,eDown)
 else ({ d.step.1 with p:=d.p.modify i.toNat fun x=>(x.1,some (put x.now at_.toNat s)) },0)
def Dk.flush (d:Dk):Dk × Int :=
 if d.off=true then (d,eDown) else if d.step.2=false then (d.step.1,eDown) else ({ d.step.1 with p:=d.p.map fun x=>(x.now,none) },0)
def Dk.image (d:Dk):List (List Int):=d.p.map (·.1)
end
section
open Go.RowKit
def arrV (k:IntKind) (xs:List Int):Value:=.agg (xs.map (Value.int k)).toArray
theorem one_ints (k:IntKind) (xs:List Int):(xs.map (Value.int k)).toArray.all (·.oneCell')=true:=by
 rw [Array.all_eq_true_iff_forall_mem]
 intro v hv
 simp only [List.mem_toArray,List.mem_map] at hv
 obtain ⟨x,_,rfl⟩:=hv
 rfl
theorem wpList_load_whole {P:Program} {ops:Array Oper} {rest:List Oper} {op:Oper} {a:Act} {w:World} {Q:Exit→Act→World→Prop} (hgd:op.guard=none) (ty:TypeId) (x:Operand) (ho:op.op = .load ty x)
 (g:Nat) (hx:a.eval x = .pointer (some ⟨g,0,none⟩)) (cs:Array Value) (t:TypeId) (hg:w.heap[g]? = some (.cells cs t (0,0))) (d:TypeDesc)
 (hu:P.underlying ty=some d) (hd:(match d with | .struct _ | .array _ _=>true | _=>false)=true) (hi:(P.info? ty).map (·.size)=some cs.size)
 (h:wpList P ops Q rest (a.put op.dst (.agg cs)) w):wpList P ops Q (op::rest) a w:=by
 refine wpList_plain hgd fun K hK=>?_
 unfold Oper.wp execOp
 simp only [ho,hx,Instr.loadAt,Instr.sureAddr,Sem.run_bind,Sem.run_pure,Result.andThen_ok,run_loadVar_row w g t ty cs (0,0) d hg hu hd hi]
 exact hK _ _ h
theorem wpList_store_whole {P:Program} {ops:Array Oper} {rest:List Oper} {op:Oper} {a:Act} {w:World} {Q:Exit→Act→World→Prop} (hgd:op.guard=none) (ty:TypeId) (x y:Operand) (ho:op.op = .store ty x y)
 (g:Nat) (hx:a.eval x = .pointer (some ⟨g,0,none⟩)) (cs cs':Array Value) (hy:a.eval y = .agg cs') (t:TypeId) (hg:w.heap[g]? = some (.cells cs t (0,0)))
 (hi:(P.info? ty).map (·.size)=some cs'.size) (hs:cs.size=cs'.size) (h1:cs'.all (·.oneCell')=true)
 (h:wpList P ops Q rest (a.put op.dst undef) (w.setRow g cs')):wpList P ops Q (op::rest) a w:=by
 refine wpList_plain hgd fun K hK=>?_
 unfold Oper.wp execOp
 have hr:=run_storeVar_row (P:=P) w g t ty cs cs' hg hi hs h1
 simp only [ho,hx,hy,Instr.storeAt,Instr.sureAddr,Sem.run_bind,Sem.run_pure,Result.andThen_ok,hr]
 exact hK _ _ h
theorem first_str {P:Program} (w:World) (s:List Int) (hs:Byt s):(Builtin.firstCells 1 s.length (.string (strOfNums s))).run P w = .ok (s.map (Value.int .u8)).toArray w:=by
 have h1:(strOfNums s).extract 0 s.length=strOfNums s:=by
  rw [str_extract,List.drop_zero,Nat.sub_zero,List.take_length]
 show (pure (((strOfNums s).extract 0 s.length).data.map fun b=>Value.int .u8 (b.toNat:Int)):Sem (Array Value)).run P w=_
 rw [h1]
 have h2:((strOfNums s).data.map fun b=>Value.int .u8 (b.toNat:Int))=(s.map (Value.int .u8)).toArray:=by
  have h3:=bs_str hs
  apply Array.ext'
  rw [Array.toList_map]
  conv=>rhs;rw [←h3]
  unfold bs
  rw [List.map_map]
  rfl
 rw [h2]
 rfl
theorem put_cells (ys:List Int) (o:Nat) (s:List Int):(((ys.map (Value.int .u8)).toArray.toList.take o++s.map (Value.int .u8)++(ys.map (Value.int .u8)).toArray.toList.drop (o+(s.map (Value.int .u8)).length)).toArray)=((put ys o s).map (Value.int .u8)).toArray:=by
 unfold put
 simp
theorem run_copy_str {P:Program} (w:World) (dT sT ty elem:TypeId) (g o dLen dCap:Nat) (t:TypeId) (ys s:List Int) (hs:Byt s)
 (hu:P.underlying dT=some (.slice elem)) (hsz:(P.info? elem).map (·.size)=some 1) (hg:w.heap[g]? = some (.cells (ys.map (Value.int .u8)).toArray t (0,0))) (hn:s.length≤dLen) (hfit:o+s.length≤ys.length) :
 (Builtin.copy_ #[dT,sT] ty #[.slice (some ⟨g,o,none⟩) dLen dCap,.string (strOfNums s)]).run P w = .ok (goInt s.length) (w.setRow g ((put ys o s).map (Value.int .u8)).toArray):=by
 have hst:=run_storeCells_at P g o t (s.map (Value.int .u8)) 0 _ w hg (by simpa using hfit) (fun v hv=>by
  obtain ⟨x,_,rfl⟩:=List.mem_map.1 hv
  rfl)
 have hf:=first_str (P:=P) w s hs
 have hm:Nat.min (strOfNums s).size dLen=s.length:=by rw [strOfNums_size];exact Nat.min_eq_left hn
 rw [Nat.add_zero,put_cells] at hst
 cases hq:P.info? elem with
 | none=>simp [hq] at hsz
 | some i =>
   have hi:i.size=1:=by simpa [hq] using hsz
   simp [Builtin.copy_,run_underlying hu,Builtin.lenOf,sizeOf,typeInfo,hq,hi,hm,hf,hst]
theorem wpList_copy_str {P:Program} {w:World} {ops:Array Oper} {rest:List Oper} {o:Oper} {a:Act} {Q:Exit→Act→World→Prop} (hgd:o.guard=none) (d s:Operand) (dT sT:TypeId)
 (ho:o.op = .call { callee:=.builtin .copy,args:=#[d,s],argTypes:=#[dT,sT] }) (elem:TypeId) (hu:P.underlying dT=some (.slice elem)) (hsz:(P.info? elem).map (·.size)=some 1)
 (g off dLen dCap:Nat) (hd:a.eval d = .slice (some ⟨g,off,none⟩) dLen dCap) (ys xs:List Int) (hx:Byt xs) (hs:a.eval s = .string (strOfNums xs)) (t:TypeId)
 (hg:w.heap[g]? = some (.cells (ys.map (Value.int .u8)).toArray t (0,0))) (hn:xs.length≤dLen) (hfit:off+xs.length≤ys.length)
 (h:wpList P ops Q rest (a.put o.dst (goInt xs.length)) (w.setRow g ((put ys off xs).map (Value.int .u8)).toArray)):wpList P ops Q (o::rest) a w:=by
 refine wpList_plain hgd fun K hK=>?_
 have hr:=run_copy_str (P:=P) w dT sT o.type elem g off dLen dCap t ys xs hx hu hsz hg hn hfit
 unfold Oper.wp execOp
 simp only [ho,resolve,invoke,builtin,Sem.run_bind,Sem.run_pure,Result.andThen_ok,List.map_toArray,List.map_cons,List.map_nil,hd,hs,hr]
 exact hK _ _ h
theorem wpQuiet_load_mid {P:Program} {ops:Array Oper} {C:World→Prop} {Q:Act→Prop} {a:Act} {o:Oper} {rest:List Oper} (hgd:o.guard=none) (ty:TypeId) (x:Operand) (ho:o.op = .load ty x)
 (b off:Nat) (hx:a.eval x = .pointer (some ⟨b,off,none⟩)) (cs:List Value) (d:TypeDesc) (hc : ∀ w,C w→w.rangeAt b off cs)
 (hu:P.underlying ty=some d) (hd:d.isRow=true) (hi:(P.info? ty).map (·.size)=some cs.length)
 (h:wpQuiet P ops C Q rest (a.put o.dst (.agg cs.toArray))):wpQuiet P ops C Q (o::rest) a:=by
 refine wpQuiet_step fun K hK=>?_
 have hw:Region.wanted o (yielded ops a.tmps)=true:=by unfold Region.wanted;rw [hgd]
 rw [if_pos hw]
 refine ⟨.agg cs.toArray,fun w hCw=>?_,hK _ h⟩
 unfold Oper.quietAt execOp
 simp only [ho,hx,Instr.loadAt,Instr.sureAddr,Sem.run_bind,Sem.run_pure,Result.andThen_ok,run_loadVar_mid w b off ty cs d (hc w hCw) hu hd hi]
 exact ⟨rfl,rfl⟩
structure Chg (S:Nat→Prop) (w w':World):Prop where
 os:w'.os=w.os
 tape:w'.tape=w.tape
 output:w'.output=w.output
 size:w.heap.size≤w'.heap.size
 block : ∀ k,k<w.heap.size → ¬S k→w'.heap[k]? = w.heap[k]?
section
variable {S T:Nat→Prop} {w w1 w':World}
theorem Chg.refl (S:Nat→Prop) (w:World):Chg S w w:=⟨rfl,rfl,rfl,Nat.le_refl _,fun _ _ _=>rfl⟩
theorem Chg.ofBelow (h:Below w.heap.size w w') (S:Nat→Prop):Chg S w w':=⟨h.os,h.tape,h.output,h.size,fun k hk _=>h.block k hk⟩
theorem Chg.ofGrown {b:Nat} (h:w.grownBy w' (some b)):Chg (· = b) w w':=⟨h.os,h.tape,h.output,h.size,fun k hk hn=>h.block k hk (by simpa using hn)⟩
theorem Chg.ofBlock {b:Nat} {es:Array MapEntry} {c:Nat} (_h:w.heap[b]? = some (.map es c)) (o:Obj):Chg (· = b) w (Go.ChangeMaps.setBlock w b o) :=
 ⟨rfl,rfl,rfl,by simp [Go.ChangeMaps.setBlock],fun k _ hn=>by simp only [Go.ChangeMaps.setBlock];rw [Array.getElem?_setIfInBounds_ne (fun e=>hn e.symm)]⟩
theorem Chg.mono (h:Chg S w w') (hs : ∀ k,k<w.heap.size→S k→T k):Chg T w w':=⟨h.os,h.tape,h.output,h.size,fun k hk hn=>h.block k hk fun e=>hn (hs k hk e)⟩
theorem Chg.trans (h:Chg S w w1) (h':Chg T w1 w') (hs : ∀ k,k<w.heap.size→T k→S k):Chg S w w' :=
 ⟨h'.os.trans h.os,h'.tape.trans h.tape,h'.output.trans h.output,Nat.le_trans h.size h'.size,fun k hk hn=>(h'.block k (Nat.lt_of_lt_of_le hk h.size) fun e=>hn (hs k hk e)).trans (h.block k hk hn)⟩
theorem Chg.below {B:Nat} (h:Chg S w w') (hB:B≤w.heap.size) (hs : ∀ k,k<B → ¬S k):Below B w w':=⟨h.os,h.tape,h.output,h.size,fun k hk=>h.block k (Nat.lt_of_lt_of_le hk hB) (hs k hk)⟩
theorem Chg.setCell (h:Chg S w w') {a:Addr} (ha:S a.block∨w.heap.size≤a.block) (v:Value):Chg S w (w'.setCell a v) :=
 ⟨h.os,h.tape,h.output,by simpa [World.setCell] using h.size,fun k hk hn=>by
  rw [heap_setCell_other w' a k v (fun e=>by subst e;rcases ha with h1 | h1 <;> first | exact hn h1 | omega)]
  exact h.block k hk hn⟩
theorem Chg.later {B:Nat} (h:Chg S w w1) (hb:Below B w1 w') (hB:w.heap.size≤B):Chg S w w' :=
 ⟨hb.os.trans h.os,hb.tape.trans h.tape,hb.output.trans h.output,Nat.le_trans h.size hb.size,fun k hk hn=>(hb.block k (by omega)).trans (h.block k hk hn)⟩
theorem Bk.chg {b:Nat} {cs:Array Value} {t:TypeId} (h:Bk w b cs t) (hc:Chg S w w') (hn : ¬S b):Bk w' b cs t:=by
 unfold Bk;rw [hc.block b (Bk.lt h) hn];exact h
end
theorem heap_setCells_other (b:Nat) : ∀ (vs:List Value) (o:Nat) (w:World) (k:Nat),k ≠ b→(w.setCells b o vs).heap[k]? = w.heap[k]?
 | [],_,_,_,_=>rfl
 | v :: vs, o, w, k, hk => by
   unfold World.setCells
   rw [heap_setCells_other b vs _ _ k hk,heap_setCell_other w ⟨b,o,none⟩ k v hk]
theorem setCells_rest (b:Nat) : ∀ (vs:List Value) (o:Nat) (w:World),(w.setCells b o vs).os=w.os∧(w.setCells b o vs).tape=w.tape∧(w.setCells b o vs).output=w.output∧(w.setCells b o vs).heap.size=w.heap.size
 | [],_,_=>⟨rfl,rfl,rfl,rfl⟩
 | v :: vs, o, w => by
   unfold World.setCells
   obtain ⟨h1,h2,h3,h4⟩:=setCells_rest b vs (o+1) (w.setCell ⟨b,o,none⟩ v)
   exact ⟨h1,h2,h3,h4.trans (by simp [World.setCell])⟩
theorem Chg.setCells {S:Nat→Prop} {w w':World} (h:Chg S w w') {b:Nat} (hb:S b∨w.heap.size≤b) (o:Nat) (vs:List Value):Chg S w (w'.setCells b o vs):=by
 obtain ⟨h1,h2,h3,h4⟩:=setCells_rest b vs o w'
 exact ⟨h1.trans h.os,h2.trans h.tape,h3.trans h.output,by rw [h4];exact h.size,fun k hk hn=>by
  rw [heap_setCells_other b vs o w' k (fun e=>by subst e;rcases hb with h1 | h1 <;> first | exact hn h1 | omega)]
  exact h.block k hk hn⟩
structure Pages (w:World) (g:Nat) (p:List Pg):Prop where
 at_ : ∀ i x,p[i]? = some x→w.rangeAt g (i * 128) (x.1.map (Value.int .u8))
 free:w.there g 0 (p.length * 128)
 lt:g<w.heap.size
section
variable {w w':World} {g:Nat} {p:List Pg}
theorem cell_of_heap {w w':World} {b:Nat} (h:w'.heap[b]? = w.heap[b]?) (o:Nat):w'.cell? ⟨b,o,none⟩=w.cell? ⟨b,o,none⟩:=World.cell?_of_block h
theorem frozen_of_heap {w w':World} {b:Nat} (h:w'.heap[b]? = w.heap[b]?) (o:Nat):w'.frozen? ⟨b,o,none⟩=w.frozen? ⟨b,o,none⟩:=by unfold World.frozen?; rw [h]
theorem Pages.of_heap (h:Pages w g p) (he:w'.heap[g]? = w.heap[g]?) (hs:w.heap.size≤w'.heap.size):Pages w' g p :=
 ⟨fun i x hx j v hv=>(cell_of_heap he _).trans (h.at_ i x hx j v hv),fun j hj=>by rw [cell_of_heap he,frozen_of_heap he];exact h.free j hj,Nat.lt_of_lt_of_le h.lt hs⟩
theorem Pages.chg {S:Nat→Prop} (h:Pages w g p) (hc:Chg S w w') (hn : ¬S g):Pages w' g p:=h.of_heap (hc.block g h.lt hn) hc.size
theorem Pages.later (h:Pages w g p) (hb:Below w.heap.size w w'):Pages w' g p:=h.chg (.ofBelow hb (fun _=>False)) (fun e=>e)
theorem Pages.there (h:Pages w g p) {i:Nat} (hi:i<p.length):w.there g (i * 128) 128:=fun j hj=>by
 have:=h.free (i * 128+j) (by omega)
 rwa [Nat.zero_add] at this
theorem Pages.same {q:List Pg} (h:Pages w g p) (hq:q.map (·.1)=p.map (·.1)):Pages w g q:=by
 have hl:q.length=p.length:=by simpa using congrArg List.length hq
 refine ⟨fun i x hx=>?_,by rw [hl];exact h.free,h.lt⟩
 have h1:(q.map (·.1))[i]? = some x.1:=by rw [List.getElem?_map,hx];rfl
 rw [hq,List.getElem?_map] at h1
 cases h2:p[i]? with
 | none=>rw [h2] at h1;cases h1
 | some y =>
   rw [h2] at h1
   injection h1 with h1
   rw [←h1];exact h.at_ i y h2
theorem Pages.put (h:Pages w g p) {i o:Nat} {ys:List Int} (hl : ∀ x∈p,x.1.length=128) (ho:o+ys.length≤128) (f:Pg→Pg) (hf : ∀ x,p[i]? = some x→(f x).1=Go.Proofs.YtajhkncolbgkbaaDoor.put x.1 o ys) :
 Pages (w.setCells g (i * 128+o) (ys.map (Value.int .u8))) g (p.modify i f):=by
 obtain ⟨_,_,_,hsz⟩:=setCells_rest g (ys.map (Value.int .u8)) (i * 128+o) w
 refine ⟨fun k x hx=>?_,?_,by rw [hsz];exact h.lt⟩
 · rw [List.getElem?_modify] at hx
   cases hk:p[k]? with
   | none=>rw [hk] at hx;cases hx
   | some y =>
     have hy:=hl y (List.mem_of_getElem? hk)
     rw [hk] at hx
     by_cases e:i=k
     · subst e
       simp only [if_true] at hx
       replace hx:f y=x:=by injection hx
       subst hx
       rw [hf y hk]
       intro j v hv
       have hi:=(List.getElem?_eq_some_iff.1 hk).1
       rw [List.getElem?_map] at hv
       unfold Go.Proofs.YtajhkncolbgkbaaDoor.put at hv
       by_cases h1:j<o
       · rw [World.cell?_setCells_out _ _ _ _ _ (fun _ _=>by left;show i * 128+j<_;omega)]
         refine h.at_ i y hk j v ?_
         rw [List.append_assoc,List.getElem?_append_left (by rw [List.length_take];omega),List.getElem?_take,if_pos h1] at hv
         rw [List.getElem?_map];exact hv
       · by_cases h2:j<o+ys.length
         · rw [List.append_assoc,List.getElem?_append_right (by rw [List.length_take];omega),List.length_take,List.getElem?_append_left (by omega)] at hv
           have hj:j - o<(ys.map (Value.int .u8)).length:=by rw [List.length_map];omega
           have:=World.cell?_setCells_in g (ys.map (Value.int .u8)) (i * 128+o) w (fun j' hj'=>by
            have:=(h.there hi (o+j') (by rw [List.length_map] at hj';omega)).1
            rwa [←Nat.add_assoc] at this) (j - o) hj
           rw [show i * 128+o+(j - o)=i * 128+j by omega] at this
           rw [this,←hv]
           rw [show j - min o y.1.length=j - o by omega]
           rw [←List.getElem?_eq_getElem hj,List.getElem?_map]
         · rw [World.cell?_setCells_out _ _ _ _ _ (fun _ _=>by right;show _≤i * 128+j;rw [List.length_map];omega)]
           refine h.at_ i y hk j v ?_
           rw [List.append_assoc,List.getElem?_append_right (by rw [List.length_take];omega),List.length_take,List.getElem?_append_right (by omega),List.getElem?_drop] at hv
           rw [List.getElem?_map,←hv]
           congr 2
           omega
     · simp only [if_neg e] at hx
       replace hx:y=x:=by simpa using hx
       subst hx
       refine World.rangeAt_setCells_apart (h.at_ k y hk) _ _ _ (.inr ?_)
       rw [List.length_map,List.length_map,hy]
       omega
 · rw [List.length_modify]
   exact World.there_setCells h.free _ _ _
end
end
section
open Go.RowKit Go.Sort Go.Maps
theorem ownsRow_below {w w':World} {B k n:Nat} {e:TypeId} {v:Value} {xs:List Value} (h:w.ownsRow B e k v n xs) (hb:Below w.heap.size w w'):w'.ownsRow B e k v n xs :=
 World.ownsRow.kept (row:=none) h ⟨hb.os,hb.tape,hb.output,hb.size,fun i hi _=>hb.block i hi⟩ (by cases v.ownBlock <;> simp)
theorem ownsRow_form {w:World} {B k n:Nat} {e:TypeId} {v:Value} {xs:List Value} (h:w.ownsRow B e k v n xs) : ∃ a c,v = .slice a n c∧n≤c∧(n=0 ∨ ∃ g,a=some ⟨g,0,none⟩∧B≤g∧g<w.heap.size) ∧ ∀ (j:Nat) u,xs[j]? = some u → ∃ g,a=some ⟨g,0,none⟩∧w.cell? ⟨g,j,none⟩=some u:=by
 rcases h.2 with ⟨rfl,rfl⟩ | ⟨g,cap,cur,rfl,hb,hg,hnc,hcm,hcs,ht⟩
 · refine ⟨none,0,rfl,Nat.le_refl _,.inl rfl,fun j u hj=>?_⟩
   have:=h.1
   rw [Nat.zero_mul] at this
   rw [List.eq_nil_of_length_eq_zero this] at hj
   simp at hj
 · refine ⟨_,cap,rfl,hnc,.inr ⟨g,rfl,hb,(Array.getElem?_eq_some_iff.1 hg).1⟩,fun j u hj=>⟨g,rfl,?_⟩⟩
   have hi:j<n * k:=by have:=(List.getElem?_eq_some_iff.1 hj).1;rw [h.1] at this;exact this
   have hcell:w.cell? ⟨g,j,none⟩=cur[j]? := by simp [World.cell?,hg]
   rw [hcell]
   rw [←ht,List.getElem?_take,if_pos hi] at hj
   simpa using hj
theorem run_append_src {P:Program} (w:World) (base:Nat) (t ty e:TypeId) (i:TypeInfo) (z:Value) (size bytes:Nat) (ht:P.underlying t=some (.slice e)) (hi:P.info? e=some i) (hz:i.zero=some z)
 (hsize:i.size=size) (hby:i.bytes=bytes) (hzs:z.cells.size=size) (hsz:0<size)
 (v:Value) (n:Nat) (xs:List Value) (hown:w.ownsRow base e size v n xs) (a:Option Addr) (m c:Nat) (ys:List Value) (hl:ys.length=m * size) (hsrc : ∀ j u,ys[j]? = some u → ∃ ad,a=some ad∧w.cell? (ad.add j)=some u) (h1 : ∀ y∈ys,y.oneCell'=true)
 (h63:n+m≤maxLen) (hbytes:(n+m) * bytes≤140737488355328) (hbase:base≤w.heap.size) :
 ∃ v' w',(Builtin.append_ #[t,t] ty #[v,.slice a m c]).run P w = .ok v' w'∧w'.ownsRow base e size v' (n+m) (xs++ys)∧w.grownBy w' v.ownBlock:=by
 cases hm:m with
 | zero =>
   subst hm
   have hy:ys=[]:=List.eq_nil_of_length_eq_zero (by rw [hl,Nat.zero_mul])
   subst hy
   obtain ⟨a2,c2,rfl,hn2,_,_⟩:=ownsRow_form hown
   refine ⟨_,w,run_append_nothing w t t ty e i ht hi a2 n c2 hn2 (.slice a 0 c) ⟨.inl ⟨e,ht⟩,fun w'=>?_,?_,?_,by simp,fun u hu=>by cases hu⟩,by simpa using hown,⟨rfl,rfl,rfl,Nat.le_refl _,fun _ _ _=>rfl⟩⟩
   · simp [Builtin.lenOf]
   · cases a <;> simp [Builtin.firstCells,loadCells,loadCellsFrom]
   · cases a <;> simp [Builtin.firstCells,loadCells,loadCellsFrom]
 | succ k =>
   rw [←hm]
   obtain ⟨y,hy⟩ : ∃ y,ys[0]? = some y:=⟨_,List.getElem?_eq_getElem (by rw [hl,hm];exact Nat.mul_pos (Nat.succ_pos k) hsz)⟩
   obtain ⟨ad,rfl,_⟩:=hsrc 0 y hy
   obtain ⟨v',w',h2,h3,h4,_⟩:=run_append_own_at (P:=P) w base t ty e i z size bytes ht hi hz hsize hby hzs hsz v n xs hown ad m c ys hl (fun j u hj=>by
    obtain ⟨ad',hg,hc⟩:=hsrc j u hj
    rw [Option.some.injEq] at hg
    subst hg
    exact hc) h1 h63 hbytes hbase
   exact ⟨v',w',h2,h3,h4⟩
theorem wpList_append_src {P:Program} {w:World} {ops:Array Oper} {rest:List Oper} {o:Oper} {a:Act} {Q:Exit→Act→World→Prop} (hgd:o.guard=none) (s x:Operand) (t:TypeId)
 (ho:o.op = .call { callee:=.builtin .append,args:=#[s,x],argTypes:=#[t,t] })
 (base:Nat) (e:TypeId) (i:TypeInfo) (z:Value) (size bytes:Nat) (ht:P.underlying t=some (.slice e)) (hi:P.info? e=some i) (hz:i.zero=some z)
 (hsize:i.size=size) (hby:i.bytes=bytes) (hzs:z.cells.size=size) (hsz:0<size)
 (v:Value) (n:Nat) (xs:List Value) (hs:a.eval s=v) (hown:w.ownsRow base e size v n xs) (b:Option Addr) (m c:Nat) (ys:List Value) (hx:a.eval x = .slice b m c) (hl:ys.length=m * size) (hsrc : ∀ j u,ys[j]? = some u → ∃ ad,b=some ad∧w.cell? (ad.add j)=some u) (h1 : ∀ y∈ys,y.oneCell'=true)
 (h63:n+m≤maxLen) (hbytes:(n+m) * bytes≤140737488355328) (hbase:base≤w.heap.size)
 (h : ∀ v' w',w'.ownsRow base e size v' (n+m) (xs++ys)→w.grownBy w' v.ownBlock→wpList P ops Q rest (a.put o.dst v') w'):wpList P ops Q (o::rest) a w :=
 wpList_plain hgd fun _ hK=>by
  obtain ⟨v',w',hr,h2,h3⟩:=run_append_src (P:=P) w base t o.type e i z size bytes ht hi hz hsize hby hzs hsz v n xs hown b m c ys hl hsrc h1 h63 hbytes hbase
  unfold Oper.wp execOp
  simp only [ho,resolve,invoke,builtin,Sem.run_bind,Sem.run_pure,Result.andThen_ok,List.map_toArray,List.map_cons,List.map_nil,hs,hx,hr]
  exact hK _ _ (h v' w' h2 h3)
end
section
open Go.RowKit Go.Sort Go.Maps
structure LeA (g:Option Nat) (O:Obj) (a b:World):Prop where
 os:b.os=a.os
 tape:b.tape=a.tape
 output:b.output=a.output
 size:a.heap.size≤b.heap.size
 block : ∀ k,k<a.heap.size→g ≠ some k→b.heap[k]? = a.heap[k]?
 row : ∀ k,k<a.heap.size→g=some k→b.heap[k]? = a.heap[k]? ∨ b.heap[k]? = some O
theorem LeA.of {g:Option Nat} {O:Obj} {a b:World} (h:Below a.heap.size a b):LeA g O a b:=⟨h.os,h.tape,h.output,h.size,fun k hk _=>h.block k hk,fun k hk _=>.inl (h.block k hk)⟩
theorem LeA.refl (g:Option Nat) (O:Obj) (a:World):LeA g O a a:=.of (Below.refl _ _)
theorem LeA.leW (g:Option Nat) (O:Obj):LeW (LeA g O):=by
 refine ⟨fun {a b c} h h'=>⟨h'.os.trans h.os,h'.tape.trans h.tape,h'.output.trans h.output,Nat.le_trans h.size h'.size,fun k hk hg=>(h'.block k (Nat.lt_of_lt_of_le hk h.size) hg).trans (h.block k hk hg),fun k hk hg=>?_⟩,fun w n=>⟨rfl,rfl,rfl,Nat.le_refl _,fun _ _ _=>rfl,fun _ _ _=>.inl rfl⟩⟩
 rcases h'.row k (Nat.lt_of_lt_of_le hk h.size) hg with h1 | h1
 · rw [h1];exact h.row k hk hg
 · exact .inr h1
theorem LeA.grown {g:Option Nat} {O:Obj} {a b:World} (h:LeA g O a b):a.grownBy b g:=⟨h.os,h.tape,h.output,h.size,fun k hk hg=>h.block k hk fun e=>hg e.symm⟩
structure AppR (W:World) (B:Nat) (e:TypeId) (g:Option Nat) (O:Obj) (xs:List Value) (v:Value) (w:World):Prop where
 own:Ownv w B e v xs
 at_ : ∀ h,v.ownBlock=some h→W.heap.size≤h∨(g=some h∧w.heap[h]? = some O)
theorem AppR.le {W w w':World} {B:Nat} {e:TypeId} {g:Option Nat} {O:Obj} {xs:List Value} {v:Value} (h:AppR W B e g O xs v w) (hg : ∀ k,g=some k→k<W.heap.size) (hl:LeA g O w w'):AppR W B e g O xs v w':=by
 have key : ∀ k,v.ownBlock=some k→w'.heap[k]? = w.heap[k]? := fun k hk=>by
  have hlt:=(h.own.lt k hk).2
  rcases h.at_ k hk with h1 | ⟨h1,h2⟩
  · exact hl.block k hlt fun e=>by have:=hg k e;omega
  · rcases hl.row k hlt h1 with h3 | h3
    · exact h3
    · rw [h3,h2]
 refine ⟨⟨h.own.1,?_⟩,fun k hk=>?_⟩
 · rcases h.own.2 with h1 | ⟨g',cap,cur,rfl,hb,hg',h3⟩
   · exact .inl h1
   · exact .inr ⟨g',cap,cur,rfl,hb,(key g' rfl).trans hg',h3⟩
 · rcases h.at_ k hk with h1 | ⟨h1,h2⟩
   · exact .inl h1
   · exact .inr ⟨h1,(key k hk).trans h2⟩
theorem take_mid {α:Type} (l ys:List α) (n:Nat) (h:n+ys.length≤l.length):(l.take n++ys++l.drop (n+ys.length)).take n=l.take n∧(l.take n++ys++l.drop (n+ys.length)).drop (n+ys.length)=l.drop (n+ys.length)∧(l.take n++ys++l.drop (n+ys.length)).length=l.length:=by
 have h1:(l.take n).length=n:=by rw [List.length_take];omega
 refine ⟨?_,?_,by simp;omega⟩
 · rw [List.append_assoc,List.take_append_of_le_length (by omega),List.take_take,Nat.min_self]
 · rw [List.drop_append,List.drop_eq_nil_of_le (by rw [List.length_append];omega),List.nil_append]
   rw [show n+ys.length - (l.take n++ys).length=0 by rw [List.length_append];omega];rfl
theorem append_leA {P:Program} (W:World) (B:Nat) (t e:TypeId) (z:Value) (bytes:Nat) (hbz:bytes≤24) (ht:P.underlying t=some (.slice e)) (hi:(P.info? e).map (fun i=>(i.zero,i.size,i.bytes))=some (some z,1,bytes)) (hzs:z.cells.size=1)
 (v:Value) (xs:List Value) (hown:Ownv W B e v xs) (ys:List Value) (h1 : ∀ y∈ys,y.oneCell'=true) (h63:xs.length+ys.length≤1000000000) (hB:B≤W.heap.size) :
 ∃ O, ∀ w, LeA v.ownBlock O W w → ∀ (ty : TypeId) (a : Addr) (c : Nat), (∀ j u, ys[j]? = some u → w.cell? (a.add j) = some u) →
   ∃ v' w',(Builtin.append_ #[t,t] ty #[v,.slice (some a) ys.length c]).run P w = .ok v' w'∧LeA v.ownBlock O w w'∧AppR W B e v.ownBlock O (xs++ys) v' w':=by
 obtain ⟨i,hi0,hz0,hz1,hz2⟩:=info_parts hi
 have hm1:xs.length+ys.length≤maxLen:=by simp only [maxLen];omega
 have hm2:(xs.length+ys.length) * bytes≤140737488355328:=by have:(xs.length+ys.length) * bytes≤(xs.length+ys.length) * 24:=Nat.mul_le_mul_left _ hbz;omega
 rcases hown.2 with ⟨rfl,hn⟩ | ⟨g,cap,cur,rfl,hbg,hg,hnc,hcm,hcs,htk⟩
 · -- nil
   refine ⟨.cells #[] 0 (0,0),fun w hL ty a c hc=>?_⟩
   have hx:xs=[]:=List.eq_nil_of_length_eq_zero hn
   subst hx
   obtain ⟨v',w',hr,h2,h3,_,h4⟩:=run_append_own_at (P:=P) w B t ty e i z 1 bytes ht hi0 hz0 hz1 hz2 hzs (by omega) (.slice none 0 0) 0 [] (World.ownsRow_nil w B e 1) a ys.length c ys (by omega) hc h1 (by simpa using hm1) (by simpa using hm2) (Nat.le_trans hB hL.size)
   refine ⟨v',w',hr,⟨h3.os,h3.tape,h3.output,h3.size,fun k hk _=>h3.block k hk (by simp [Value.ownBlock]),fun k _ h=>by cases h⟩,⟨by unfold Ownv;simpa using h2,fun k hk=>.inl ?_⟩⟩
   rcases h4 with h4 | h4
   · rw [h4] at hk;cases hk
   · rw [h4] at hk;injection hk with hk;have:=hL.size;omega
 · rw [Nat.mul_one] at hcs htk
   by_cases hroom:xs.length+ys.length≤cap
   · -- there is room
     refine ⟨.cells (cur.toList.take xs.length++ys++cur.toList.drop (xs.length+ys.length)).toArray e (0,0),fun w hL ty a c hc=>?_⟩
     have hcl:cur.toList.length=cap:=by rw [Array.length_toList];exact hcs
     obtain ⟨m1,m2,m3⟩:=take_mid cur.toList ys xs.length (by omega)
     have hwg : ∃ cw,w.heap[g]? = some (.cells cw e (0,0))∧cw.size=cap∧cw.toList.take xs.length=xs∧cw.toList.take xs.length++ys++cw.toList.drop (xs.length+ys.length)=cur.toList.take xs.length++ys++cur.toList.drop (xs.length+ys.length):=by
      rcases hL.row g (Array.getElem?_eq_some_iff.1 hg).1 rfl with h | h
      · exact ⟨cur,h.trans hg,hcs,htk,rfl⟩
      · refine ⟨_,h,by rw [←Array.length_toList];exact m3.trans hcl,m1.trans htk,?_⟩
        show List.take _ (_++ys++_)++ys++List.drop _ (_++ys++_)=_
        rw [m1,m2]
     obtain ⟨cw,k1,k2,k3,k4⟩:=hwg
     have hr:=run_append_room (P:=P) w t ty e i ht hi0 g xs.length cap cw k1 a ys.length c ys (by rw [hz1,Nat.mul_one]) hc h1 hroom (by rw [hz1,Nat.mul_one,k2];exact hroom)
     rw [hz1,Nat.mul_one,k4] at hr
     have hset:=setRow_heap w g cw (cur.toList.take xs.length++ys++cur.toList.drop (xs.length+ys.length)).toArray e (0,0) k1
     refine ⟨_,_,hr,⟨rfl,rfl,rfl,by simp [World.setRow],fun k hk hne=>setRow_other w g k _ (fun e=>hne (by rw [e];rfl)),fun k hk hk'=>?_⟩,⟨⟨by simp,.inr ⟨g,cap,_,by rw [List.length_append],hbg,hset,?_,hcm,?_,?_⟩⟩,fun k hk=>.inr ⟨by injection hk with hk;rw [←hk];rfl,?_⟩⟩⟩
     · injection hk' with hk'
       change g=k at hk'
       subst hk'
       exact .inr hset
     · rw [List.length_append];exact hroom
     · rw [Nat.mul_one,←Array.length_toList];exact m3.trans hcl
     · rw [Nat.mul_one,List.length_append]
       show List.take _ (_++ys++_)=_
       rw [htk,List.take_append_of_le_length (by simp),List.take_of_length_le (by simp)]
     · injection hk with hk
       change g=k at hk
       subst hk
       exact hset
   · -- it grows
     refine ⟨.cells cur e (0,0),fun w hL ty a c hc=>?_⟩
     have hwg:w.heap[g]? = some (.cells cur e (0,0)):=by
      rcases hL.row g (Array.getElem?_eq_some_iff.1 hg).1 rfl with h | h
      · exact h.trans hg
      · exact h
     have hw:w.ownsRow B e 1 (.slice (some ⟨g,0,none⟩) xs.length cap) xs.length xs:=⟨by omega,.inr ⟨g,cap,cur,rfl,hbg,hwg,hnc,hcm,by rw [Nat.mul_one];exact hcs,by rw [Nat.mul_one];exact htk⟩⟩
     obtain ⟨v',w',hr,h2,h3,_,h4⟩:=run_append_own_at (P:=P) w B t ty e i z 1 bytes ht hi0 hz0 hz1 hz2 hzs (by omega) _ xs.length xs hw a ys.length c ys (by omega) hc h1 hm1 hm2 (Nat.le_trans hB hL.size)
     have hr2:=run_append_grow (P:=P) w t ty e i z ht hi0 hz0 ⟨g,0,none⟩ xs.length cap xs (by rw [hz1,Nat.mul_one]) (hw.cells (g:=g) rfl) a ys.length c ys (by rw [hz1,Nat.mul_one]) hc (by omega) (by omega) (growslice_fits (by omega) (by rw [hz2];exact hm2))
     rw [hr] at hr2
     injection hr2 with e1 e2
     have hgl:g<w.heap.size:=(Array.getElem?_eq_some_iff.1 hwg).1
     have hold : ∀ k,k<w.heap.size→w'.heap[k]? = w.heap[k]? := fun k hk=>by rw [e2];exact heap_alloc_old w.drew _ hk
     refine ⟨v',w',hr,⟨h3.os,h3.tape,h3.output,h3.size,fun k hk _=>hold k hk,fun k hk _=>.inl (hold k hk)⟩,⟨by unfold Ownv;simpa using h2,fun k hk=>.inl ?_⟩⟩
     rw [e1] at hk
     injection hk with hk
     change w.heap.size=k at hk
     have:=hL.size;omega
end
end Go.Proofs.YtajhkncolbgkbaaDoor
