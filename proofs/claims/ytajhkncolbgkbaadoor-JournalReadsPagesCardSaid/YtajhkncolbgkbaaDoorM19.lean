/- Jwi: joined by program, for one claim. -/
import Derived.Test.YtajhkncolbgkbaaDoorM18
import Derived.Test.YtajhkncolbgkbaaDoorM12
set_option linter.unusedVariables false
set_option linter.unusedSimpArgs false
section
namespace Go.Proofs.YtajhkncolbgkbaaDoor
open Go.RowKit Go.Sort Go.Maps
theorem WrR.src2 {w:World} {x:Int} {s:List Int} {g:Nat} (h:Bk w g #[.int .i64 x,.string (strOfNums s)] 93) : ∀ (j:Nat) u,[Value.int .i64 x,.string (strOfNums s)][j]? = some u→w.cell? ((⟨g,0,none⟩:Addr).add j)=some u:=fun j u hj=>by
 obtain ⟨ad,e,hc⟩:=WrR.src h j u hj
 injection e with e
 rw [e];exact hc
theorem rowP_len (l:List (Int × List Int)):(rowP l).length=l.length * 2:=by
 induction l with
 | nil=>rfl
 | cons x l ih =>
   have e:rowP (x::l) = .int .i64 x.1 :: .string (strOfNums x.2)::rowP l:=rfl
   rw [e];simp only [List.length_cons,ih];omega
theorem rowP_one {l:List (Int × List Int)} {W:World} {b off:Nat} (hs:SlP W (some ⟨b,off,none⟩) l) : ∀ (j:Nat) u,(rowP l)[j]? = some u→W.cell? ((⟨b,off,none⟩:Addr).add j)=some u:=fun j u hj=>by
 have hjl:=(List.getElem?_eq_some_iff.1 hj).1
 rw [rowP_len] at hjl
 obtain ⟨x,hx⟩ : ∃ x,l[j / 2]? = some x:=⟨_,List.getElem?_eq_getElem (by omega)⟩
 obtain ⟨k1,k2⟩:=rowP_at l _ x hx
 obtain ⟨b',off',e,h1,h2⟩:=hs _ x hx
 simp only [Option.some.injEq,Addr.mk.injEq,and_true] at e
 obtain ⟨rfl,rfl⟩:=e
 rw [show (⟨b,off,none⟩:Addr).add j=⟨b,off+j,none⟩ by cases j <;> simp [Addr.add]]
 rcases (by omega:j=j / 2 * 2∨j=j / 2 * 2+1) with hm | hm
 · rw [hm,k1] at hj
   rw [hm,h1,Option.some.inj hj]
 · rw [hm,k2] at hj
   rw [hm,←Nat.add_assoc,h2,Option.some.inj hj]
theorem rowP_sl {l:List (Int × List Int)} {W:World} {g:Nat} {cs:Array Value} {e:TypeId} (hk:Bk W g cs e) (hc : ∀ (j:Nat) u,(rowP l)[j]? = some u→cs[j]? = some u):SlP W (some ⟨g,0,none⟩) l:=fun i x hx=>by
 obtain ⟨k1,k2⟩:=rowP_at l i x hx
 exact ⟨g,0,rfl,by rw [Nat.zero_add];exact hk.cell _ (hc _ _ k1),by rw [Nat.zero_add];exact hk.cell _ (hc _ _ k2)⟩
theorem append_front {W:World} {g:Nat} {x:Int} {s:List Int} (hg:Bk W g #[.int .i64 x,.string (strOfNums s)] 93) {a:Option Addr} {c:Nat} {l:List (Int × List Int)} (hs:SlP W a l) (hl:l.length≤1000) (ty:TypeId) :
 ∃ v' w',(Builtin.append_ #[51,51] ty #[.slice (some ⟨g,0,none⟩) 1 1,.slice a l.length c]).run Tryd.prog W = .ok v' w'∧Below W.heap.size W w' ∧ ∃ a' c',v' = .slice a' (l.length+1) c'∧SlP w' a' ((x,s)::l):=by
 obtain ⟨i0,hi0,hz0,hz1,hz2⟩:=info_parts (show (Tryd.prog.info? 93).map (fun i=>(i.zero,i.size,i.bytes))=some (some (.agg #[.int .i64 0,.string ByteArray.empty]),2,24) by kernel_rfl)
 cases l with
 | nil =>
   refine ⟨_,W,run_append_nothing W 51 51 ty 93 i0 Tryd.underlying51 hi0 (some ⟨g,0,none⟩) 1 1 (Nat.le_refl _) (.slice a 0 c) ⟨.inl ⟨_,Tryd.underlying51⟩,fun w'=>?_,?_,?_,by simp,fun u hu=>by cases hu⟩,Below.refl _ _,_,_,rfl,rowP_sl (l:=[(x,s)]) hg fun j u hj=>?_⟩
   · simp [Builtin.lenOf]
   · cases a <;> simp [Builtin.firstCells,loadCells,loadCellsFrom]
   · cases a <;> simp [Builtin.firstCells,loadCells,loadCellsFrom]
   · match j,hj with
     | 0,hj=>exact hj
     | 1,hj=>exact hj
 | cons y l =>
   obtain ⟨b,off,rfl,_,_⟩:=hs 0 y rfl
   have hr:=run_append_grow (P:=Tryd.prog) W 51 ty 93 i0 _ Tryd.underlying51 hi0 hz0 ⟨g,0,none⟩ 1 1 [.int .i64 x,.string (strOfNums s)] (by rw [hz1];rfl) (WrR.src2 hg) ⟨b,off,none⟩ (y::l).length c (rowP (y::l)) (by rw [hz1,rowP_len]) (rowP_one hs) (by simp only [List.length_cons];omega) (by omega) (growslice_fits (by simp only [List.length_cons];omega) (by rw [hz2];omega))
   refine ⟨_,_,hr,(Below.refl _ _).drew.alloc (Nat.le_refl _) _,_,grownCap W ((y::l).length+1) 1 93,by rw [Nat.add_comm];rfl,rowP_sl (l:=(x,s)::y::l) (Bk.new W.drew _ _) fun j u hj=>?_⟩
   have e:rowP ((x,s)::y::l)=[.int .i64 x,.string (strOfNums s)]++rowP (y::l):=rfl
   rw [e] at hj
   have hjl:=(List.getElem?_eq_some_iff.1 hj).1
   rw [Array.getElem?_append_left (by simpa using hjl),←Array.getElem?_toList]
   simpa using hj
def FrR (l:List (Int × List Int)) (v:Value) (w:World):Prop := ∃ a c,v = .slice a l.length c∧SlP w a l
theorem FrR.later {l:List (Int × List Int)} {v:Value} {w w':World} (h:FrR l v w) (hb:Below w.heap.size w w'):FrR l v w':=by
 obtain ⟨a,c,h1,h2⟩:=h
 exact ⟨a,c,h1,h2.below hb⟩
def WrS (B jp pp dp g mb wb:Nat) (k:Nat):Prop:=k=wb∨JW jp pp dp g mb k∨B≤k
def wInts (l:List (Nat × List Int)):List (Int × List Int):=l.map fun x=>((x.1:Int),x.2)
theorem wInts_len (l:List (Nat × List Int)):(wInts l).length=l.length:=List.length_map _
structure WrX (B0:Nat) (n B dp g mb cap jp pp h bank wb t0 m0:Nat) (s0:List Int) (rv bv:Value) (im0:List (List Int)) (Ls:List (Nat × List Int)) (pre done wait:List (Nat × List Int)) (t m:Nat) (im:List (List Int)) (v:Value) (W:World):Prop where
 split:pre=done++wait
 few:wait.length≤15
 inv:PInv n t im
 cnt:t≤t0+done.length
 mem : ∀ x∈pre,x∈Ls
 js:JS W jp pp h bank s0 rv false
 st:St B W dp g mb cap pp m (qDk im) t bv false
 dn:pre <+: Ls→DoneJ n t0 im0 done t im
 room:m≤m0+40 * done.length
 bk:Bk W wb #[v] 51
 own:W.ownsRow B0 93 2 v wait.length (rowP (wInts wait))
section
variable {B0 n B dp g mb cap jp pp h bank wb t0 m0:Nat} {s0:List Int} {rv bv:Value} {im0 im:List (List Int)} {Ls pre done wait:List (Nat × List Int)} {t m:Nat} {v:Value} {W W':World}
theorem own_chg {S:Nat→Prop} {e:TypeId} {k nn:Nat} {xs:List Value} (h:W.ownsRow B0 e k v nn xs) (hc:Chg S W W') (hn : ∀ q,v.ownBlock=some q → ¬S q):W'.ownsRow B0 e k v nn xs:=by
 refine ⟨h.1,?_⟩
 rcases h.2 with h2 | ⟨q,cap,cur,rfl,hb,hg,h3⟩
 · exact .inl h2
 · exact .inr ⟨q,cap,cur,rfl,hb,(hc.block q (Array.getElem?_eq_some_iff.1 hg).1 (hn q rfl)).trans hg,h3⟩
theorem own_at {e:TypeId} {k nn:Nat} {xs:List Value} (h:W.ownsRow B0 e k v nn xs) : ∀ q,v.ownBlock=some q→B0≤q∧q<W.heap.size ∧ ∃ o:Obj,W.heap[q]? = some o∧o.isCells=true:=fun q hq=>by
 rcases h.2 with ⟨rfl,_⟩ | ⟨q',cap,cur,rfl,hb,hg,h3⟩
 · cases hq
 · injection hq with hq
   change q'=q at hq
   subst hq
   exact ⟨hb,(Array.getElem?_eq_some_iff.1 hg).1,_,hg,rfl⟩
theorem WrX.chg (hx:WrX B0 n B dp g mb cap jp pp h bank wb t0 m0 s0 rv bv im0 Ls pre done wait t m im v W) {S:Nat→Prop} (hc:Chg S W W') (hw : ¬S wb) (hj : ∀ k,JW jp pp dp g mb k → ¬S k) (ho : ∀ q,v.ownBlock=some q → ¬S q) :
 WrX B0 n B dp g mb cap jp pp h bank wb t0 m0 s0 rv bv im0 Ls pre done wait t m im v W' :=
 ⟨hx.split,hx.few,hx.inv,hx.cnt,hx.mem,Bk.chg hx.js hc (hj _ (.inl rfl)),⟨hx.st.dk.chg hc fun k hk=>hj k (.inr (.inr hk)),Bk.chg hx.st.ps hc (hj _ (.inr (.inl rfl))),hx.st.ne,hx.st.lo⟩,hx.dn,hx.room,Bk.chg hx.bk hc hw,own_chg hx.own hc ho⟩
theorem WrX.later (hx:WrX B0 n B dp g mb cap jp pp h bank wb t0 m0 s0 rv bv im0 Ls pre done wait t m im v W) (hb:Below W.heap.size W W') :
 WrX B0 n B dp g mb cap jp pp h bank wb t0 m0 s0 rv bv im0 Ls pre done wait t m im v W' :=
 hx.chg (.ofBelow hb fun _=>False) (fun e=>e) (fun _ _ e=>e) (fun _ _ e=>e)
structure WrA (B0 jp pp dp g mb wb:Nat):Prop where
 jw : ∀ k,JW jp pp dp g mb k→k<B0
 lt:wb<B0
 ap : ¬JW jp pp dp g mb wb
 ne:jp ≠ pp ∧ ¬In3 dp g mb jp
theorem WrX.own_ (hA:WrA B0 jp pp dp g mb wb) {row:Option Nat} (hx:WrX B0 n B dp g mb cap jp pp h bank wb t0 m0 s0 rv bv im0 Ls pre done wait t m im v W) (hg:W.grownBy W' row) (hr : ∀ r,row=some r→B0≤r ∧ ∃ o:Obj,W.heap[r]? = some o∧o.isCells=false) :
 WrX B0 n B dp g mb cap jp pp h bank wb t0 m0 s0 rv bv im0 Ls pre done wait t m im v W':=by
 refine hx.chg (S:=fun k=>row=some k) ⟨hg.os,hg.tape,hg.output,hg.size,fun k hk hn=>hg.block k hk fun e=>hn e.symm⟩ (fun e=>?_) (fun k hk e=>?_) (fun q hq e=>?_)
 · have:=(hr _ e).1;have:=hA.lt;omega
 · have:=(hr _ e).1;have:=hA.jw k hk;omega
 · obtain ⟨_,o,h1,h2⟩:=hr q e
   obtain ⟨_,_,o',h3,h4⟩:=own_at hx.own q hq
   rw [h1] at h3
   obtain rfl:=Option.some.inj h3
   rw [h2] at h4;cases h4
theorem WrX.add (hA:WrA B0 jp pp dp g mb wb) (hx:WrX B0 n B dp g mb cap jp pp h bank wb t0 m0 s0 rv bv im0 Ls pre done wait t m im v W) (hw:wait.length<15) (x:Nat × List Int) (hxL:x∈Ls) {o:Obj} {v':Value} {W6:World}
 (g1:W6.ownsRow B0 93 2 v' (wait.length+1) (rowP (wInts wait)++[.int .i64 (x.1:Int),.string (strOfNums x.2)])) (g2:(W.alloc o).grownBy W6 v.ownBlock) :
 WrX B0 n B dp g mb cap jp pp h bank wb t0 m0 s0 rv bv im0 Ls (pre++[x]) done (wait++[x]) t m im v' (W6.setCell ⟨wb,0,none⟩ v')∧Chg (fun k=>k=wb∨v.ownBlock=some k) W (W6.setCell ⟨wb,0,none⟩ v')∧Bk W6 wb #[v] 51:=by
 have ha:=own_at hx.own
 have e1:Chg (fun k=>v.ownBlock=some k) W W6:=by
  have e0:Chg (fun k=>v.ownBlock=some k) W (W.alloc o):=.ofBelow ((Below.refl _ _).alloc (Nat.le_refl _) _) _
  exact e0.trans ⟨g2.os,g2.tape,g2.output,g2.size,fun k hk hn=>g2.block k hk fun e=>hn e.symm⟩ fun k _ h=>h
 have hw1:v.ownBlock ≠ some wb:=fun e=>by have:=(ha _ e).1;have:=hA.lt;omega
 have k6:Bk W6 wb #[v] 51:=Bk.chg hx.bk e1 hw1
 have e2:Chg (fun k=>k=wb∨v.ownBlock=some k) W (W6.setCell ⟨wb,0,none⟩ v'):=(e1.mono fun k _ h=>.inr h).setCell (.inl (.inl rfl)) _
 have hjw : ∀ k,JW jp pp dp g mb k → ¬(k=wb∨v.ownBlock=some k):=fun k hk hS=>by
  rcases hS with rfl | hS
  · exact hA.ap hk
  · have:=(ha _ hS).1;have:=hA.jw k hk;omega
 refine ⟨⟨by rw [hx.split,List.append_assoc],by rw [List.length_append,List.length_singleton];omega,hx.inv,hx.cnt,fun y hy=>(List.mem_append.1 hy).elim (hx.mem y) fun h=>by rw [List.mem_singleton] at h;rw [h];exact hxL,Bk.chg hx.js e2 (hjw _ (.inl rfl)),⟨hx.st.dk.chg e2 fun k hk=>hjw k (.inr (.inr hk)),Bk.chg hx.st.ps e2 (hjw _ (.inr (.inl rfl))),hx.st.ne,hx.st.lo⟩,fun hp=>hx.dn ((List.prefix_append _ _).trans hp),hx.room,by simpa using k6.set 0 v',?_⟩,e2,k6⟩
 have e:rowP (wInts wait)++[.int .i64 (x.1:Int),.string (strOfNums x.2)]=rowP (wInts (wait++[x])):=by rw [rowP_snoc];simp [wInts]
 rw [e] at g1
 rw [List.length_append,List.length_singleton]
 exact own_chg g1 (Chg.setCell (S:=fun k=>k=wb) (Chg.refl _ _) (.inl rfl) _) fun q hq e=>by have:=(own_at g1 q hq).1;have:=hA.lt;omega
theorem WrX.src (hx:WrX B0 n B dp g mb cap jp pp h bank wb t0 m0 s0 rv bv im0 Ls pre done wait t m im v W) : ∃ a c,v = .slice a wait.length c∧SlP W a (wInts wait) ∧ ∀ b,a=some b → ∃ q,b=⟨q,0,none⟩:=by
 obtain ⟨a,c,rfl,_,_,hc⟩:=ownsRow_form hx.own
 refine ⟨a,c,rfl,fun i y hy=>?_,fun b hb=>?_⟩
 · obtain ⟨k1,k2⟩:=rowP_at _ i y hy
   obtain ⟨g1,rfl,c1⟩:=hc _ _ k1
   obtain ⟨g',e,c2⟩:=hc _ _ k2
   simp only [Option.some.injEq,Addr.mk.injEq,and_true] at e
   subst e
   exact ⟨g1,0,rfl,by rw [Nat.zero_add];exact c1,by rw [Nat.zero_add];exact c2⟩
 · rcases hx.own.2 with ⟨h,_⟩ | ⟨q',cap,cur,h,_⟩
   · injection h with h _ _;rw [h] at hb;cases hb
   · injection h with h _ _;rw [h] at hb;injection hb with hb;exact ⟨q',hb.symm⟩
end
structure WrL (w0:World) (n B dp g mb cap jp pp h bank wb t0 m0:Nat) (s0:List Int) (rv bv:Value) (im0:List (List Int)) (Ls pre:List (Nat × List Int)) (W:World):Prop where
 chg:Chg (WrS w0.heap.size jp pp dp g mb wb) w0 W
 ex : ∃ done wait t m im v,WrX w0.heap.size n B dp g mb cap jp pp h bank wb t0 m0 s0 rv bv im0 Ls pre done wait t m im v W
theorem WrL.own {β:Type} (w0:World) (n B dp g mb cap jp pp h bank wb t0 m0:Nat) (s0:List Int) (rv bv:Value) (im0:List (List Int)) (Ls:List (Nat × List Int)) (hA:WrA w0.heap.size jp pp dp g mb wb) (f:β→List (Nat × List Int)) :
 OwnFrom w0.heap.size (fun s W=>WrL w0 n B dp g mb cap jp pp h bank wb t0 m0 s0 rv bv im0 Ls (f s) W):=fun s X Y row hs hg hr=>by
 obtain ⟨done,wait,t,m,im,v,hx⟩:=hs.ex
 refine ⟨⟨hg.os.trans hs.chg.os,hg.tape.trans hs.chg.tape,hg.output.trans hs.chg.output,Nat.le_trans hs.chg.size hg.size,fun k hk hn=>?_⟩,done,wait,t,m,im,v,hx.own_ hA hg hr⟩
 refine (hg.block k (Nat.lt_of_lt_of_le hk hs.chg.size) fun e=>?_).trans (hs.chg.block k hk hn)
 exact hn (.inr (.inr (hr k e.symm).1))
theorem WrX.put {B0 n B dp g mb cap jp pp h bank wb t0 m0:Nat} {s0:List Int} {rv bv:Value} {im0 im:List (List Int)} {Ls pre done wait:List (Nat × List Int)} {t m:Nat} {v:Value} {W W1:World} (hA:WrA B0 jp pp dp g mb wb)
 (hx:WrX B0 n B dp g mb cap jp pp h bank wb t0 m0 s0 rv bv im0 Ls pre done wait t m im v W) (hb:BatchOk n wait) (ht:t+1≤2 ^ 30) (hap:pre <+: Ls → ∀ x∈done,∀ y∈wait,y.1 ≠ x.1)
 (hst:St B W1 dp g mb cap pp (m+40) (qDk (wrote (t+1) wait im)) (t+1) bv false) (hj:JS W1 jp pp h bank s0 rv false) (hc:Chg (JW jp pp dp g mb) W W1) :
 WrX B0 n B dp g mb cap jp pp h bank wb t0 m0 s0 rv bv im0 Ls pre (done++wait) [] (t+1) (m+40) (wrote (t+1) wait im) (.slice none 0 0) (W1.setCell ⟨wb,0,none⟩ (.slice none 0 0))∧Bk W1 wb #[v] 51:=by
 have hk:Bk W1 wb #[v] 51:=Bk.chg hx.bk hc hA.ap
 have e2:Chg (fun k=>k=wb) W1 (W1.setCell ⟨wb,0,none⟩ (.slice none 0 0)):=Chg.setCell (S:=fun k=>k=wb) (Chg.refl _ _) (.inl rfl) _
 have hn : ∀ k,JW jp pp dp g mb k→k ≠ wb:=fun k hk e=>hA.ap (e ▸ hk)
 have h1:=hb.one
 refine ⟨⟨by rw [List.append_nil];exact hx.split,by simp,hx.inv.write hb ht,by have:=hx.cnt;rw [List.length_append];omega,hx.mem,Bk.chg hj e2 (hn _ (.inl rfl)),⟨hst.dk.chg e2 fun k hk=>hn k (.inr (.inr hk)),Bk.chg hst.ps e2 (hn _ (.inr (.inl rfl))),hst.ne,hst.lo⟩,fun hp=>(hx.dn hp).next hb ht (hap hp),by have:=hx.room;rw [List.length_append];omega,by simpa using hk.set 0 (.slice none 0 0),World.ownsRow_nil _ _ _ _⟩,hk⟩
theorem WrL.round {w0 W W':World} {n B dp g mb cap jp pp h bank wb t0 m0:Nat} {s0:List Int} {rv bv:Value} {im0:List (List Int)} {Ls pre pre':List (Nat × List Int)} {v:Value} {xs:List Value} {k:Nat} (hA:WrA w0.heap.size jp pp dp g mb wb) (hI:WrL w0 n B dp g mb cap jp pp h bank wb t0 m0 s0 rv bv im0 Ls pre W)
 (hown:W.ownsRow w0.heap.size 93 2 v k xs) (hc:Chg (fun k=>k=wb∨JW jp pp dp g mb k∨v.ownBlock=some k) W W') (hex : ∃ done wait t m im v,WrX w0.heap.size n B dp g mb cap jp pp h bank wb t0 m0 s0 rv bv im0 Ls pre' done wait t m im v W') :
 KeepsFrom w0.heap.size W W'∧KpJ (WrS w0.heap.size jp pp dp g mb wb) jp (.int .i64 (h:Int)) W W'∧WrL w0 n B dp g mb cap jp pp h bank wb t0 m0 s0 rv bv im0 Ls pre' W':=by
 have hS : ∀ k,(k=wb∨JW jp pp dp g mb k∨v.ownBlock=some k)→WrS w0.heap.size jp pp dp g mb wb k:=fun k hk=>by
  rcases hk with h | h | h
  · exact .inl h
  · exact .inr (.inl h)
  · exact .inr (.inr (own_at hown k h).1)
 have hc2:=hc.mono (T:=WrS w0.heap.size jp pp dp g mb wb) fun k _ hk=>hS k hk
 have hsz:=hI.chg.size
 refine ⟨keepsFrom_chg hc fun k o hB hk ho hcells=>?_,⟨hc2,fun _=>?_⟩,hI.chg.trans hc2 fun _ _ h=>h,hex⟩
 · exfalso
   rcases hk with rfl | hk | hk
   · have:=hA.lt;omega
   · have:=hA.jw k hk;omega
   · obtain ⟨_,_,o',h3,h4⟩:=own_at hown k hk
     rw [ho] at h3
     obtain rfl:=Option.some.inj h3
     rw [hcells] at h4;cases h4
 · obtain ⟨_,_,_,_,_,_,hx⟩:=hex
   exact Bk.cell hx.js 1 rfl
end Go.Proofs.YtajhkncolbgkbaaDoor
end
