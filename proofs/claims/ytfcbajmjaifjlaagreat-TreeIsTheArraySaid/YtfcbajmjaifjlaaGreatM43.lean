/- It0, It2, RlL: joined by program, for one claim. -/
import Derived.Test.YtfcbajmjaifjlaaGreatM42
import Derived.Test.YtfcbajmjaifjlaaGreatM40
import Derived.Test.YtfcbajmjaifjlaaGreatM16
import Derived.Test.YtfcbajmjaifjlaaGreatM34
import Derived.Test.YtfcbajmjaifjlaaGreatM23
set_option linter.unusedVariables false
set_option linter.unusedSimpArgs false
namespace Go.Proofs.YtfcbajmjaifjlaaGreat
section
open Go.RowKit Go.Sort Go.Maps
open Oct
abbrev qB (m:Int):Box:=⟨⟨0,0,0⟩,⟨m,m,m⟩⟩
structure QOk (m:Int) (V:Nat):Prop where
 emp:emptyB (qB m)=false
 vol:volB (qB m)=(V:Int)
 ok:okB (qB m)=true
 pos:0<V
 le:V≤5000
theorem q_ok {n:Nat} (hn:n≤2) : ∃ V,QOk (2 ^ (n+2)) V:=by
 match n,hn with
 | 0,_=>exact ⟨64,by decide,by decide,by decide,by decide,by decide⟩
 | 1,_=>exact ⟨512,by decide,by decide,by decide,by decide,by decide⟩
 | 2,_=>exact ⟨4096,by decide,by decide,by decide,by decide,by decide⟩
theorem q_len {m:Int} {V:Nat} (h:QOk m V) (F:Pt→Int):(cellsOf (qB m) F).length=V:=by rw [cellsOf_length,h.vol];rfl
theorem q_cell {n:Nat} {F:Pt→Int} (hF:FnC n F):cellG (qB (2 ^ (n+2))) (cellsOf (qB (2 ^ (n+2))) F)=F:=by
 funext p
 by_cases hp:inB p (qB (2 ^ (n+2)))=true
 · exact cellG_cellsOf hp
 · have h0:=hF.out p (Bool.eq_false_iff.2 hp)
   rw [h0]
   unfold cellG
   rw [if_neg hp]
theorem q_fill {n:Nat} {b:Box} {c:Int} {F:Pt→Int}:(cellsOf (qB (2 ^ (n+2))) fun p=>if inB p b=true then c else F p)=cellsOf (qB (2 ^ (n+2))) (fillF n b c F):=cellsOf_congr fun p hp=>by
 unfold fillF
 rw [show inB p (wholeB n)=true from hp,Bool.and_true]
theorem q_paste {n:Nat} {b:Box} {ys:List Int} {F:Pt→Int}:(cellsOf (qB (2 ^ (n+2))) fun p=>if inB p b=true then cellG b ys p else F p)=cellsOf (qB (2 ^ (n+2))) (pasteF n b ys F):=cellsOf_congr fun p hp=>by
 unfold pasteF
 rw [show inB p (wholeB n)=true from hp,Bool.and_true]
theorem q_valid {m:Int} {V:Nat} (h:QOk m V) {F:Pt→Int} (hF : ∀ p,0≤F p∧F p≤255):validG (qB m) (cellsOf (qB m) F)=true:=by
 unfold validG
 have hl:=q_len h F
 have hv:=h.vol
 have hle:=h.le
 have hall:(cellsOf (qB m) F).all Pal.cell=true:=by
  rw [List.all_eq_true]
  intro x hx
  unfold cellsOf at hx
  obtain ⟨i,-,rfl⟩:=List.mem_map.1 hx
  have:=hF (atB (qB m) (i:Int))
  simp [Pal.cell]
  omega
 rw [h.ok,h.emp,hall,hv,hl]
 simp
 omega
theorem q_good {m:Int} {V cap:Nat} (h:QOk m V) (hc:V≤cap) {F:Pt→Int} (hF : ∀ p,0≤F p∧F p≤255):GoodH (qB m) (cellsOf (qB m) F) cap:=by
 have hl:=q_len h F
 have hle:=h.le
 refine ⟨okB_small h.ok,by rw [hl,h.vol];rfl,by omega,fun x hx=>?_,by omega⟩
 unfold cellsOf at hx
 obtain ⟨i,-,rfl⟩:=List.mem_map.1 hx
 exact hF _
theorem q_from {n:Nat} (hn:n≤2) {V:Nat} (h:QOk (2 ^ (n+2)) V) {F:Pt→Int} (hF:FnC n F) (w:World) (sb g cap:Nat) (hc:V≤cap) (hsl:Sl w .i64 (some ⟨g,0,none⟩) (cellsOf (qB (2 ^ (n+2))) F)) (Far:Nat→Prop) (hg:Far g) (most:Int) (ts:List Tr) (hG:Good ts) (hlen:ts.length≤100000000000) (hT:trF n F∈ts) (hFar : ∀ k,Far k→k<w.heap.size) (hS:StoreIs w Far sb most ts) :
 Calls Tryz.prog 33 #[.pointer (some ⟨sb,0,none⟩),.agg #[(0:Int),(0:Int),(0:Int),.int .i64 (2 ^ (n+2)),.int .i64 (2 ^ (n+2)),.int .i64 (2 ^ (n+2)),.slice (some ⟨g,0,none⟩) V cap],.int .i64 ((n:Int)+2)] w fun e w'=>e=ret2 (idn ts n F) 0∧StoreIs w' Far sb most ts∧Keeps Far w w':=by
 have hl:=q_len h F
 have key:=from_yes w sb 0 0 0 (2 ^ (n+2)) (2 ^ (n+2)) (2 ^ (n+2)) (some ⟨g,0,none⟩) cap (cellsOf (qB (2 ^ (n+2))) F) n (by omega) hsl (q_good h hc hF.range) (q_valid h hF.range) (.inr (by
  have hj:joinB (qB (2 ^ (n+2))) (qB (2 ^ (n+2)))=qB (2 ^ (n+2)):=by unfold joinB;simp
  have hm:meetB (qB (2 ^ (n+2))) (qB (2 ^ (n+2)))=qB (2 ^ (n+2)):=by unfold meetB;rw [hj,h.emp];simp
  unfold containsB
  rw [show (⟨⟨0,0,0⟩,⟨2 ^ (n+2),2 ^ (n+2),2 ^ (n+2)⟩⟩:Box)=qB (2 ^ (n+2)) from rfl,hm]
  simp)) Far (fun _ b hb=>by simp only [Option.map_some,Option.some.injEq] at hb;rw [←hb];exact hg) most ts hG hlen hFar hS
 rw [q_cell hF,hl,Tr.add_same _ _ hT] at key
 exact key.mono fun e w' hd=>hd.fit (.inl rfl)
theorem q_from' {n:Nat} {m:Int} (hm:2 ^ (n+2)=m) (hn:n≤2) {V:Nat} (h:QOk m V) {F:Pt→Int} (hF:FnC n F) (w:World) (sb g cap:Nat) (hc:V≤cap) (hsl:Sl w .i64 (some ⟨g,0,none⟩) (cellsOf (qB m) F)) (Far:Nat→Prop) (hg:Far g) (most:Int) (ts:List Tr) (hG:Good ts) (hlen:ts.length≤100000000000) (hT:trF n F∈ts) (hFar : ∀ k,Far k→k<w.heap.size) (hS:StoreIs w Far sb most ts) :
 Calls Tryz.prog 33 #[.pointer (some ⟨sb,0,none⟩),.agg #[(0:Int),(0:Int),(0:Int),m,m,m,.slice (some ⟨g,0,none⟩) V cap],.int .i64 ((n:Int)+2)] w fun e w'=>e=ret2 (idn ts n F) 0∧StoreIs w' Far sb most ts∧Keeps Far w w':=by
 subst hm
 exact q_from hn h hF w sb g cap hc hsl Far hg most ts hG hlen hT hFar hS
end
section
open Go.RowKit Go.Sort Go.Maps
open Oct
theorem Sl.of_block {w w':World} {k:IntKind} {g off:Nat} {xs:List Int} (h:Sl w k (some ⟨g,off,none⟩) xs) (hb:w'.heap[g]? = w.heap[g]?):Sl w' k (some ⟨g,off,none⟩) xs:=by
 intro i x hx
 obtain ⟨b,o,he,hc⟩:=h i x hx
 refine ⟨b,o,he,?_⟩
 simp only [Option.some.injEq,Addr.mk.injEq,and_true] at he
 obtain ⟨rfl,rfl⟩:=he
 rw [World.cell?_of_block hb];exact hc
structure ItI (w:World) (Far:Nat→Prop) (sb n V:Nat) (m:Int) (F A:Pt→Int) (ts:List Tr) (go g cap:Nat) (wr:World):Prop where
 st:StoreIs wr Far sb 1000000 ts
 far : ∀ j,Far j→j<wr.heap.size
 old : ∀ j,j<w.heap.size→Far j
 bel:Below w.heap.size w wr
 good:Good ts
 mem:trF n F∈ts
 fn:FnC n F
 ko:Bk wr go #[(0:Int),(0:Int),(0:Int),m,m,m,.slice (some ⟨g,0,none⟩) V cap] 28
 gof:Far go
 gol:w.heap.size≤go
 sl:Sl wr .i64 (some ⟨g,0,none⟩) (cellsOf (qB m) A)
 gf:Far g
 cap:V≤cap
theorem ItI.later {w wr w':World} {Far:Nat→Prop} {sb n V:Nat} {m:Int} {F A:Pt→Int} {ts:List Tr} {go g cap:Nat} (h:ItI w Far sb n V m F A ts go g cap wr) (hb:Below wr.heap.size wr w'):ItI w Far sb n V m F A ts go g cap w' :=
 ⟨h.st.later hb,fun j hj=>Nat.lt_of_lt_of_le (h.far j hj) hb.size,h.old,h.bel.trans (hb.mono h.bel.size),h.good,h.mem,h.fn,h.ko.later hb,h.gof,h.gol,h.sl.below hb,h.gf,h.cap⟩
theorem ItI.wide {w wr:World} {Far:Nat→Prop} {sb n V:Nat} {m:Int} {F A:Pt→Int} {ts:List Tr} {go g cap:Nat} (h:ItI w Far sb n V m F A ts go g cap wr) {w':World} (hb:Below wr.heap.size wr w') (x:Nat) (h1:wr.heap.size≤x) (h2:x<w'.heap.size):ItI w (fun k=>Far k∨k=x) sb n V m F A ts go g cap w' :=
 ⟨(h.st.widen (fun k hk => hk.imp (fun h => h) (fun (e : k = x) => by omega))).later hb, fun j hj => (by
   rcases hj with hj | rfl
   · exact Nat.lt_of_lt_of_le (h.far j hj) hb.size
   · exact h2),fun j hj=>.inl (h.old j hj),h.bel.trans (hb.mono h.bel.size),h.good,h.mem,h.fn,h.ko.later hb,.inl h.gof,h.gol,h.sl.below hb,.inl h.gf,h.cap⟩
theorem ItI.made {w wr w':World} {Far:Nat→Prop} {sb n V:Nat} {m:Int} {F F' A:Pt→Int} {ts ts':List Tr} {go g cap:Nat} (h:ItI w Far sb n V m F A ts go g cap wr) (hk:Keeps Far wr w') (hs:StoreIs w' Far sb 1000000 ts') (hg:Good ts') (hm:trF n F'∈ts') (hf:FnC n F'):ItI w Far sb n V m F' A ts' go g cap w' :=
 ⟨hs,fun j hj=>Nat.lt_of_lt_of_le (h.far j hj) hk.size,h.old,below_of_keeps h.bel hk h.old,hg,hm,hf,(hk.block _ h.gof h.ko.lt).trans h.ko,h.gof,h.gol,h.sl.of_block (hk.block _ h.gf (h.far _ h.gf)),h.gf,h.cap⟩
theorem grown_put7 (w:World) (g:Nat) (a b c d e f i:Value):w.grownBy (((((((w.setCell ⟨g,0,none⟩ a).setCell ⟨g,1,none⟩ b).setCell ⟨g,2,none⟩ c).setCell ⟨g,3,none⟩ d).setCell ⟨g,4,none⟩ e).setCell ⟨g,5,none⟩ f).setCell ⟨g,6,none⟩ i) (some g) :=
 ((((((grown_setCell w ⟨g,0,none⟩ a).trans (grown_setCell _ ⟨g,1,none⟩ b)).trans (grown_setCell _ ⟨g,2,none⟩ c)).trans (grown_setCell _ ⟨g,3,none⟩ d)).trans (grown_setCell _ ⟨g,4,none⟩ e)).trans (grown_setCell _ ⟨g,5,none⟩ f)).trans (grown_setCell _ ⟨g,6,none⟩ i)
theorem ItI.put {w wr w2:World} {Far:Nat→Prop} {sb n V:Nat} {m:Int} {F A A':Pt→Int} {ts:List Tr} {go g cap g' cap':Nat} (h:ItI w Far sb n V m F A ts go g cap wr) (hb:Below wr.heap.size wr w2) (hV:0<V) (hl:(cellsOf (qB m) A').length=V) (ho:Own w2 wr.heap.size 3 .i64 (.slice (some ⟨g',0,none⟩) V cap') (cellsOf (qB m) A')) :
 ItI w (fun k=>Far k∨k=g') sb n V m F A' ts go g' cap' (((((((w2.setCell ⟨go,0,none⟩ (.int .i64 0)).setCell ⟨go,1,none⟩ (.int .i64 0)).setCell ⟨go,2,none⟩ (.int .i64 0)).setCell ⟨go,3,none⟩ (.int .i64 m)).setCell ⟨go,4,none⟩ (.int .i64 m)).setCell ⟨go,5,none⟩ (.int .i64 m)).setCell ⟨go,6,none⟩ (.slice (some ⟨g',0,none⟩) V cap')):=by
 have h1:=ho.lt g' rfl
 have h2:=h.wide hb g' h1.1 h1.2
 have hg:=grown_put7 w2 go (.int .i64 0) (.int .i64 0) (.int .i64 0) (.int .i64 m) (.int .i64 m) (.int .i64 m) (.slice (some ⟨g',0,none⟩) V cap')
 have hgo:go<wr.heap.size:=h.far _ h.gof
 have hcp:=own_cap ho
 exact ⟨h2.st.apart hg (.inl h.gof),fun j hj=>Nat.lt_of_lt_of_le (h2.far j hj) hg.size,h2.old,h2.bel.grown hg h2.bel.size (fun x e=>by injection e with e;rw [←e];exact h.gol),h.good,h.mem,h.fn,h2.ko.put7 _ _ _ _ _ _ _,.inl h.gof,h.gol,ho.sl.of_block (hg.block g' h1.2 (fun e=>by injection e with e;omega)),.inr rfl,by omega⟩
theorem ItI.start {w w2 w5 W1:World} {sb n V:Nat} {m:Int} {F:Pt→Int} {ts:List Tr} {go g cap:Nat} (hS:StoreIs w5 (fun k=>k<w2.heap.size) sb 1000000 ts) (hb2:Below w.heap.size w w2) (hb5:Below w2.heap.size w2 w5) (hb:Below w5.heap.size w5 W1) (hg:Good ts) (hm:trF n F∈ts) (hf:FnC n F) (hl:(cellsOf (qB m) F).length=V) (ho:Own W1 w5.heap.size 3 .i64 (.slice (some ⟨g,0,none⟩) V cap) (cellsOf (qB m) F)) (hgo:w5.heap.size≤go) (kg:Bk W1 go #[(0:Int),(0:Int),(0:Int),(0:Int),(0:Int),(0:Int),.slice none 0 0] 28) :
 ItI w (fun k=>k<w2.heap.size∨k=go∨k=g) sb n V m F F ts go g cap (((((((W1.setCell ⟨go,0,none⟩ (.int .i64 0)).setCell ⟨go,1,none⟩ (.int .i64 0)).setCell ⟨go,2,none⟩ (.int .i64 0)).setCell ⟨go,3,none⟩ (.int .i64 m)).setCell ⟨go,4,none⟩ (.int .i64 m)).setCell ⟨go,5,none⟩ (.int .i64 m)).setCell ⟨go,6,none⟩ (.slice (some ⟨g,0,none⟩) V cap)):=by
 have hq:=grown_put7 W1 go (.int .i64 0) (.int .i64 0) (.int .i64 0) (.int .i64 m) (.int .i64 m) (.int .i64 m) (.slice (some ⟨g,0,none⟩) V cap)
 have hg2:=ho.lt g rfl
 have hcp:=own_cap ho
 have hne:g ≠ go:=fun e=>own_ne_bk ho kg (by decide) (by rw [←e];rfl)
 have s2:=hb2.size
 have s5:=hb5.size
 have s1:=hb.size
 have kl:=kg.lt
 have hbw:Below w.heap.size w W1:=hb2.trans ((hb5.trans (hb.mono s5)).mono s2)
 exact ⟨((hS.widen (fun k hk=>by
  rcases hk with h | rfl | rfl
  · exact .inl h
  · exact .inr hgo
  · exact .inr hg2.1)).later hb).apart hq (.inr (.inl rfl)),fun j hj=>Nat.lt_of_lt_of_le (by
  rcases hj with h | rfl | rfl
  · omega
  · exact kl
  · exact hg2.2) hq.size,fun j hj=>.inl (by omega),hbw.grown hq hbw.size (fun x e=>by injection e with e;omega),hg,hm,hf,kg.put7 _ _ _ _ _ _ _,.inr (.inl rfl),by omega,ho.sl.of_block (hq.block g hg2.2 (fun e=>hne (Option.some.inj e))),.inr (.inr rfl),by omega⟩
def CropT (B:Nat) (m:Int) (V:Nat) (A:Pt→Int) (v:Value) (w':World):Prop := ∃ g cap,v = .tuple #[.agg #[(0:Int),(0:Int),(0:Int),m,m,m,.slice (some ⟨g,0,none⟩) V cap],(0:Int)]∧Own w' B 3 .i64 (.slice (some ⟨g,0,none⟩) V cap) (cellsOf (qB m) A)
def CropG (B:Nat) (m:Int) (V:Nat) (A:Pt→Int) (v:Value) (w':World):Prop := ∃ g cap,v = .agg #[(0:Int),(0:Int),(0:Int),m,m,m,.slice (some ⟨g,0,none⟩) V cap]∧Own w' B 3 .i64 (.slice (some ⟨g,0,none⟩) V cap) (cellsOf (qB m) A)
theorem CropT.firm {B:Nat} {m:Int} {V:Nat} {A:Pt→Int} {v:Value} {w w':World} (h:CropT B m V A v w) (hb:Below w.heap.size w w'):CropT B m V A v w':=by
 obtain ⟨g,cap,e,ho⟩:=h
 exact ⟨g,cap,e,ho.below hb⟩
theorem CropG.firm {B:Nat} {m:Int} {V:Nat} {A:Pt→Int} {v:Value} {w w':World} (h:CropG B m V A v w) (hb:Below w.heap.size w w'):CropG B m V A v w':=by
 obtain ⟨g,cap,e,ho⟩:=h
 exact ⟨g,cap,e,ho.below hb⟩
def ArrR (m:Int) (V:Nat) (A:Pt→Int) (W:World) (e:Ending) (w':World):Prop := ∃ g cap,e = .returned (.agg #[(0:Int),(0:Int),(0:Int),m,m,m,.slice (some ⟨g,0,none⟩) V cap])∧Own w' W.heap.size 3 .i64 (.slice (some ⟨g,0,none⟩) V cap) (cellsOf (qB m) A)∧Below W.heap.size W w'
section
variable {w W:World} {Far:Nat→Prop} {sb n V:Nat} {m:Int} {F A F':Pt→Int} {ts:List Tr} {go g cap:Nat} {s:Stp}
theorem arr_fill (hQ:QOk m V) (hm:2 ^ (n+2)=m) (hI:ItI w Far sb n V m F A ts go g cap W) (hk:s.kd=1) (hs:stepF n A s=some F') :
 Calls Tryz.prog 30 #[.agg #[(0:Int),(0:Int),(0:Int),m,m,m,.slice (some ⟨g,0,none⟩) V cap],.agg #[s.b.lo.x,s.b.lo.y,s.b.lo.z,s.b.hi.x,s.b.hi.y,s.b.hi.z],s.cell] W (ArrR m V F' W):=by
 unfold stepF at hs
 rw [if_pos hk] at hs
 split at hs
 · obtain rfl:=Option.some.inj hs
   subst hm
   have h:=ref_fill_any 0 0 0 (2 ^ (n+2)) (2 ^ (n+2)) (2 ^ (n+2)) s.b.lo.x s.b.lo.y s.b.lo.z s.b.hi.x s.b.hi.y s.b.hi.z g 0 V cap s.cell (okB_small hQ.ok) hQ.vol hQ.pos hQ.le A _ rfl W hI.sl
   have e:(cellsOf ⟨⟨0,0,0⟩,⟨2 ^ (n+2),2 ^ (n+2),2 ^ (n+2)⟩⟩ fun p=>if inB p ⟨⟨s.b.lo.x,s.b.lo.y,s.b.lo.z⟩,⟨s.b.hi.x,s.b.hi.y,s.b.hi.z⟩⟩=true then s.cell else A p)=cellsOf (qB (2 ^ (n+2))) (fillF n s.b s.cell A):=q_fill
   rw [e] at h
   exact h
 · cases hs
theorem arr_paste (hQ:QOk m V) (hm:2 ^ (n+2)=m) (hI:ItI w Far sb n V m F A ts go g cap W) (hk:s.kd=2) (hfew:fewS n s=true) (hok:StpOk W s) (hs:stepF n A s=some F') :
 Calls Tryz.prog 31 #[.agg #[(0:Int),(0:Int),(0:Int),m,m,m,.slice (some ⟨g,0,none⟩) V cap],.agg #[s.g.lo.x,s.g.lo.y,s.g.lo.z,s.g.hi.x,s.g.hi.y,s.g.hi.z,.slice s.ga s.ys.length s.gc]] W (ArrR m V F' W):=by
 simp only [fewS,Bool.and_eq_true,decide_eq_true_eq] at hfew
 obtain ⟨f1,f2,f3,-⟩:=hfew
 unfold stepF at hs
 rw [if_neg (by omega),if_pos hk] at hs
 obtain rfl:=Option.some.inj hs
 subst hm
 have h:=ref_paste_any 0 0 0 (2 ^ (n+2)) (2 ^ (n+2)) (2 ^ (n+2)) s.g.lo.x s.g.lo.y s.g.lo.z s.g.hi.x s.g.hi.y s.g.hi.z g 0 V cap s.ga s.gc s.ys (okB_small hQ.ok) hQ.vol hQ.pos hQ.le (goodG_of (hcp:=s.gc) f3 f1 hok.yc) A _ rfl W hI.sl hok.ys
 have e:(cellsOf ⟨⟨0,0,0⟩,⟨2 ^ (n+2),2 ^ (n+2),2 ^ (n+2)⟩⟩ fun p=>if inB p ⟨⟨s.g.lo.x,s.g.lo.y,s.g.lo.z⟩,⟨s.g.hi.x,s.g.hi.y,s.g.hi.z⟩⟩=true then cellG ⟨⟨s.g.lo.x,s.g.lo.y,s.g.lo.z⟩,⟨s.g.hi.x,s.g.hi.y,s.g.hi.z⟩⟩ s.ys p else A p)=cellsOf (qB (2 ^ (n+2))) (pasteF n s.g s.ys A):=q_paste
 rw [e] at h
 exact h
theorem arr_write (hQ:QOk m V) (hm:2 ^ (n+2)=m) (hI:ItI w Far sb n V m F A ts go g cap W) (hk:s.kd=3) (hfew:fewS n s=true) (hok:StpOk W s) (hs:stepF n A s=some F') :
 Calls Tryz.prog 32 #[.agg #[(0:Int),(0:Int),(0:Int),m,m,m,.slice (some ⟨g,0,none⟩) V cap],.slice s.la s.cs.length s.lc] W (ArrR m V F' W):=by
 simp only [fewS,Bool.and_eq_true,decide_eq_true_eq] at hfew
 obtain ⟨f1,f2,f3,-⟩:=hfew
 unfold stepF at hs
 rw [if_neg (by omega),if_neg (by omega),if_pos hk] at hs
 split at hs
 · rename_i hc
   obtain rfl:=Option.some.inj hs
   subst hm
   exact ref_write_any 0 0 0 (2 ^ (n+2)) (2 ^ (n+2)) (2 ^ (n+2)) g 0 V cap s.la s.lc s.cs (by omega) hok.cc (okB_small hQ.ok) hQ.vol hQ.pos hQ.le A _ rfl (fun x hx=>(hc x hx).1) W hI.sl hok.cs
 · cases hs
end
end
section
open Go.Sort Go.RowKit
def seqI (ops:Array Oper):List Nat→Array Bool→Bool
 | [],listed=>(Region.ready .any ops listed).isEmpty
 | k::is,listed=>decide (Region.ready .any ops listed=[k]) && seqI ops is (listed.setIfInBounds k true)
theorem any_of_seqI {P:Program} {ops:Array Oper} {Q:Exit→Act→World→Prop} : ∀ (is:List Nat) (lo:List Oper) (listed:Array Bool) (a:Act) (w:World),lo.map some=is.map (fun i=>ops[i]?)→seqI ops is listed=true→wpList P ops Q lo a w→wpAny P .any ops Q is.length listed a w
 | [], lo, listed, a, w, hl, hB, h => by
   have:lo=[]:=by simpa using hl
   subst this
   exact ⟨by simpa [seqI] using hB,h⟩
 | k :: is, lo, listed, a, w, hl, hB, h => by
   match lo,hl with
   | o :: lo, hl =>
     simp only [List.map_cons,List.cons.injEq] at hl
     simp only [seqI,Bool.and_eq_true,decide_eq_true_eq] at hB
     refine ⟨fun h1=>(by rw [hB.1] at h1;cases h1),fun i hi=>?_⟩
     rw [hB.1] at hi
     obtain rfl:i=k:=by simpa using hi
     have hw:wpOp P ops Q i (wpList P ops Q lo) a w:=by unfold wpOp;rw [←hl.1];exact h
     exact wpOp_mono (fun a' w' h'=>any_of_seqI is lo _ a' w' hl.2 hB.2 h') hw
def tailL (l:List Oper) (n q:Nat):Bool :=
 ((List.range n).all fun k=>decide (k=q) || Region.waitsFor .any l.toArray n k || (List.range n).any fun m=>decide (k<m) && decide (m ≠ q) && Region.waitsFor .any l.toArray m k) && (List.range l.length).all fun t=>decide (t≤n) || Region.waitsFor .any l.toArray t (t - 1)
section
variable {P:Program} {l:List Oper} {n q:Nat} {R:Nat→Value→World→Prop} {W:World} {a:Act}
theorem not_firstL {s:Array Bool} (hs:s.size=n) {g:Nat} (hsh:Shut .any l s) (ht:tailL l n q=true) (h:n∈Region.ready .any l.toArray (s++Array.replicate g false)) : ∀ (d k:Nat),n - k≤d→k<n→k ≠ q→s.getD k false=false→False
 | 0,k,h1,h2,_,_=>by omega
 | d + 1, k, hd, hk, hkq, hun => by
   obtain ⟨h1,o,ho,h2⟩:=mem_ready.1 h
   have ht':=ht
   simp only [tailL,Bool.and_eq_true] at ht'
   have h3:=List.all_eq_true.1 ht'.1 k (List.mem_range.2 hk)
   simp only [Bool.or_eq_true,decide_eq_true_eq] at h3
   rcases h3 with (h3 | h3) | h3
   · exact hkq h3
   · obtain ⟨o',ho',e,he,hbi,hon⟩:=Region.waitsFor_spec h3
     obtain rfl:o'=o:=Option.some.inj (ho'.symm.trans ho)
     have:=h2 e he hbi
     rw [hon,app_get hs hk,hun] at this
     cases this
   · obtain ⟨m,hm,h4⟩:=List.any_eq_true.1 h3
     simp only [Bool.and_eq_true,decide_eq_true_eq] at h4
     have hmn:=List.mem_range.1 hm
     refine not_firstL hs hsh ht h d m (by omega) hmn h4.1.2 ?_
     cases hx:s.getD m false with
     | false=>rfl
     | true=>have:=hsh m k hx h4.2;rw [hun] at this;cases this
theorem ready_tailL {s:Array Bool} (hs:s.size=n) {g i:Nat} (ht:tailL l n q=true) (h:i∈Region.ready .any l.toArray (s++Array.replicate g false)) (hge:n≤i):i=n:=by
 obtain ⟨h1,o,ho,h2⟩:=mem_ready.1 h
 have hil:i<l.length:=by have:=(Array.getElem?_eq_some_iff.1 ho).1;simpa using this
 by_cases hin:i=n
 · exact hin
 · exfalso
   have ht':=ht
   simp only [tailL,Bool.and_eq_true] at ht'
   have h3:=List.all_eq_true.1 ht'.2 i (List.mem_range.2 hil)
   simp only [Bool.or_eq_true,decide_eq_true_eq] at h3
   rcases h3 with h3 | h3
   · omega
   · obtain ⟨o',ho',e,he,hbi,hon⟩:=Region.waitsFor_spec h3
     obtain rfl:o'=o:=Option.some.inj (ho'.symm.trans ho)
     have:=h2 e he hbi
     rw [hon,app_tail hs (by omega)] at this
     cases this
def maskL (n q:Nat):Array Bool:=(Array.replicate n true).setIfInBounds q false
theorem is_mask {s:Array Bool} (hs:s.size=n) (hq:q<n) (h : ∀ k,k<n→k ≠ q→s.getD k false=true) (hun:s.getD q false=false):s=maskL n q:=by
 apply Array.ext_getElem?
 intro k
 unfold maskL
 rw [Array.getElem?_setIfInBounds]
 rcases Nat.lt_or_ge k n with hk | hk
 · by_cases e:q=k
   · subst e
     rw [if_pos rfl,if_pos (by simpa using hq)]
     have h1:q<s.size:=by omega
     rw [Array.getElem?_eq_getElem h1]
     have:s[q]=false:=by simpa [Array.getD_eq_getD_getElem?,h1] using hun
     rw [this]
   · rw [if_neg e]
     have h1:k<s.size:=by omega
     have h2:=h k hk (fun e'=>e e'.symm)
     have:s[k]=true:=by simpa [Array.getD_eq_getD_getElem?,h1] using h2
     rw [Array.getElem?_eq_getElem h1,this]
     simp [hk]
 · rw [Array.getElem?_eq_none (by omega)]
   split
   · rename_i e;subst e;omega
   · simp;omega
theorem ri_anyL (hn:n≤l.length) (B:RelB l n) (hb:backB .any l n=true) (ht:tailL l n q=true) (hq:q<n) (hf : ∀ i,i<n→Firm (R i)) (hd : ∀ i d,i<n→dstAt l i=some d→d<a.tmps.size)
 (hop : ∀ i o,i<n→l[i]? = some o → ∀ (ρ:Operand→Value) w,Below W.heap.size W w→(∀ v,ρ (.const v)=v)→(∀ g,ρ (.global g) = .pointer (some ⟨g,0,none⟩))→(∀ f,ρ (.func f) = .func (.func f) #[] #[]) →
  (∀ d,.tmp d∈o.op.operands→Known l n R a d (ρ (.tmp d)) w)→relUpon P w (R i) ((execOp ρ o).run P w))
 {Q:Exit→Act→World→Prop} (hend : ∀ a' w',RI l n R W a (Array.replicate n true) a' w'→wpAny P .any l.toArray Q (l.length - n) (Array.replicate n true++Array.replicate (l.length - n) false) a' w')
 (hlate : ∀ a' w',RI l n R W a (maskL n q) a' w'→n∈Region.ready .any l.toArray (maskL n q++Array.replicate (l.length - n) false)→wpOp P l.toArray Q n (fun a'' w''=>wpAny P .any l.toArray Q (l.length - n) ((maskL n q++Array.replicate (l.length - n) false).setIfInBounds n true) a'' w'') a' w') :
 ∀ (f:Nat) (s:Array Bool) (a':Act) (w':World),s.size=n→Shut .any l s→unl s=f→RI l n R W a s a' w'→wpAny P .any l.toArray Q (f+(l.length - n)) (s++Array.replicate (l.length - n) false) a' w'
 | 0, s, a', w', hs, _, hu, I => by
   have e:s=Array.replicate n true:=by rw [←hs];exact unl_zero hu
   rw [Nat.zero_add,e]
   rw [e] at I
   exact hend a' w' I
 | f + 1, s, a', w', hs, hsh, hu, I => by
   obtain ⟨k,hk,hun⟩:=unl_pos (s:=s) (by omega)
   rw [show f+1+(l.length - n)=(f+(l.length - n))+1 by omega]
   refine ⟨fun h0=>?_,fun i hi=>?_⟩
   · obtain ⟨i,hi⟩:=ready_some (g:=l.length - n) hs hn hb (k+1) k (by omega) (by omega) hun
     rw [h0] at hi;cases hi
   · rcases Nat.lt_or_ge i n with hin | hge
     · have hiu:s.getD i true=false:=by have:=(mem_ready.1 hi).1;rwa [app_get hs hin] at this
       refine wpOp_mono (fun a'' w'' I'=>?_) (ri_step B hf hd hop hs I hin hi hiu)
       rw [app_set (by omega)]
       refine ri_anyL hn B hb ht hq hf hd hop hend hlate f _ a'' w'' (by simpa using hs) (shut_set hsh (ready_head hs hin hb hi) hin) ?_ I'
       have:=unl_set (s:=s) (by omega) hiu
       omega
     · have hin:=ready_tailL hs ht hi hge
       subst hin
       have hall : ∀ k,k<i→k ≠ q→s.getD k false=true:=fun k hk hkq=>by
        cases hx:s.getD k false with
        | true=>rfl
        | false=>exact (not_firstL hs hsh ht hi (i - k) k (Nat.le_refl _) hk hkq hx).elim
       have hkq:k=q:=by
        by_cases e:k=q
        · exact e
        · have:=hall k (by omega) e;rw [hun] at this;cases this
       subst hkq
       have hm:=is_mask hs hq hall hun
       have hf0:f=0:=by
        have h1:=unl_set (s:=s) (i:=k) (by omega) (by
         have:k<s.size:=by omega
         simpa [Array.getD_eq_getD_getElem?,this] using hun)
        have h2:unl (s.setIfInBounds k true)=0:=by
         rw [hm]
         unfold unl maskL
         rw [List.count_eq_zero]
         intro hmem
         obtain ⟨j,hj,e⟩:=List.getElem_of_mem hmem
         simp [Array.getElem_setIfInBounds] at e
        omega
       subst hf0
       subst hm
       rw [Nat.zero_add]
       exact hlate a' w' I hi
def headRL (l:List Oper) (n q:Nat) (is:List Nat):Bool :=
 decide (n<l.length) && decide (q<n) && backB .any l n && tailL l n q && relB l n && Region.seqB .any l.toArray (l.length - n) n (Array.replicate n true++Array.replicate (l.length - n) false) && decide (is.length=l.length - n) && seqI l.toArray is ((maskL n q++Array.replicate (l.length - n) false).setIfInBounds n true)
theorem act_of_vals (hn:n≤l.length) (B:RelB l n) (hd : ∀ i d,i<n→dstAt l i=some d→d<a.tmps.size) {a':Act} (hdef:a'.defers=a.defers) (hold : ∀ x:Nat,(∀ i,i<n→dstAt l i ≠ some x)→a'.tmps[x]? = a.tmps[x]?) (g:Nat→Value) (hg : ∀ i,i<n → ∃ d,dstAt l i=some d∧a'.tmps[d]? = some (g i)) :
 a'=puts (((l.take n).map (·.dst)).zip ((List.range n).map g)) a:=by
 have hz : ∀ i,i<n→(((l.take n).map (·.dst)).zip ((List.range n).map g))[i]? = some (dstAt l i,g i):=by
  intro i hi
  rw [(List.getElem?_zip_eq_some (z:=(dstAt l i,g i))).2]
  refine ⟨?_,by simp [hi]⟩
  rw [List.getElem?_map,List.getElem?_take,if_pos hi]
  unfold dstAt
  rw [List.getElem?_eq_getElem (show i<l.length by omega)];rfl
 have hlt : ∀ {i p},(((l.take n).map (·.dst)).zip ((List.range n).map g))[i]? = some p→i<n:=by
  intro i p hp
  have:=(List.getElem?_eq_some_iff.1 hp).1
  simp at this;omega
 refine act_ext ?_ fun x=>?_
 · rw [(puts_size _ _).2];exact hdef
 · by_cases hx : ∃ i,i<n∧dstAt l i=some x
   · obtain ⟨i,hi,hdx⟩:=hx
     obtain ⟨d,h1,h2⟩:=hg i hi
     rw [hdx] at h1
     obtain rfl:=Option.some.inj h1
     rw [h2]
     symm
     refine puts_in _ a x _ (hd i x hi hdx) ?_ (List.mem_iff_getElem?.2 ⟨i,by rw [hz i hi,hdx]⟩)
     rw [List.pairwise_iff_getElem]
     intro p q hp hq hpq d' e1 e2
     have n1:=hz p (hlt (List.getElem?_eq_getElem hp))
     have n2:=hz q (hlt (List.getElem?_eq_getElem hq))
     rw [List.getElem?_eq_getElem hp] at n1
     rw [List.getElem?_eq_getElem hq] at n2
     rw [Option.some.inj n1] at e1
     rw [Option.some.inj n2] at e2
     exact B.dist p q d' (hlt (List.getElem?_eq_getElem hp)) (hlt (List.getElem?_eq_getElem hq)) (by omega) e1 e2
   · rw [puts_out _ _ x (fun p hp e=>by
      obtain ⟨i,hi⟩:=List.mem_iff_getElem?.1 hp
      have hin:=hlt hi
      rw [hz i hin] at hi
      have:=Option.some.inj hi
      subst this
      exact hx ⟨i,hin,e⟩)]
     exact hold x fun i hi e=>hx ⟨i,hi,e⟩
theorem wp_region_relL {id:Nat} {Q:Exit→Act→World→Prop} (n q:Nat) (is:List Nat) (lo:List Oper) (on:Oper) (R:Nat→Value→World→Prop) (hm:P.follows .mixedOrders=true) (hB:headRL l n q is=true) (hon:l[n]? = some on) (hlo:lo.map some=is.map (fun i=>l.toArray[i]?)) (m:Nat) (hdm:dstB l m=true) (ham:a.tmps.size=m)
 (hf : ∀ i,i<n→Firm (R i))
 (hop : ∀ i o,i<n→l[i]? = some o → ∀ (ρ:Operand→Value) w,Below W.heap.size W w→(∀ v,ρ (.const v)=v)→(∀ g,ρ (.global g) = .pointer (some ⟨g,0,none⟩))→(∀ f,ρ (.func f) = .func (.func f) #[] #[]) →
  (∀ d,.tmp d∈o.op.operands→Known l n R a d (ρ (.tmp d)) w)→relUpon P w (R i) ((execOp ρ o).run P w))
 (h : ∀ (vs:List Value) w',vs.length=n→Below W.heap.size W w'→(∀ i v,i ≠ q→vs[i]? = some v→R i v w')→((∀ v,vs[q]? = some v→R q v w')→wpList P l.toArray Q (l.drop n) (puts (((l.take n).map (·.dst)).zip vs) a) w')∧wpList P l.toArray Q (on::lo) (puts (((l.take n).map (·.dst)).zip vs) a) w'):(Code.region id l.toArray true).wp P Q a W:=by
 simp only [headRL,Bool.and_eq_true,decide_eq_true_eq] at hB
 obtain ⟨⟨⟨⟨⟨⟨⟨hn,hq⟩,hb⟩,ht⟩,hrel⟩,hseq⟩,hil⟩,hsi⟩:=hB
 have B:=relB_spec hrel
 have hd : ∀ i d,i<n→dstAt l i=some d→d<a.tmps.size:=fun i d _ hd=>by rw [ham];exact dstB_spec hdm hd
 refine wp_region_any hm ?_
 have hdst : ∀ i,i<n → ∃ d,dstAt l i=some d:=fun i hi=>by
  obtain ⟨o,ho⟩ : ∃ o,l[i]? = some o:=⟨_,List.getElem?_eq_getElem (by omega)⟩
  obtain ⟨d,hdd⟩:=B.dst i o hi ho
  exact ⟨d,by simp [dstAt,ho,hdd]⟩
 have:=ri_anyL (Q:=Q) (q:=q) (by omega) B hb ht hq hf hd hop (fun a' w' I=>?_) (fun a' w' I _=>?_) n (Array.replicate n false) a { W with drawn:=W.drawn+1 } (by simp) (fun m k h=>by
  simp only [Array.getD_eq_getD_getElem?,Array.getElem?_replicate] at h
  split at h <;> simp at h) (by simp [unl])
  ⟨rfl,rfl,fun x _=>rfl,fun i d _ hs=>(by rw [getD_replicate_false] at hs;cases hs),⟨rfl,rfl,rfl,Nat.le_refl _,fun _ _=>rfl⟩⟩
 · have e:Array.replicate n false++Array.replicate (l.length - n) false=Array.replicate l.toArray.size false:=by
    rw [Array.replicate_append_replicate];congr 1;simp;omega
   rw [e,show n+(l.length - n)=l.toArray.size by simp;omega] at this
   exact this
 · have hv : ∀ i,∃ v,i<n→(∃ d,dstAt l i=some d∧a'.tmps[d]? = some v)∧R i v w':=by
    intro i
    by_cases hi:i<n
    · obtain ⟨d,hdl⟩:=hdst i hi
      obtain ⟨v,h1,h2⟩:=I.head i d hi (by simp [hi]) hdl
      exact ⟨v,fun _=>⟨⟨d,hdl,h1⟩,h2⟩⟩
    · exact ⟨undef,fun h=>absurd h hi⟩
   obtain ⟨g,hg⟩:=Classical.axiomOfChoice hv
   have heq:=act_of_vals (a:=a) (a':=a') (by omega) B hd I.defers (fun x hx=>I.old x fun i hi _=>hx i hi) g (fun i hi=>(hg i hi).1)
   have hR : ∀ i v,((List.range n).map g)[i]? = some v→R i v w':=fun i v hi=>by
    have hin:i<n:=by have:=(List.getElem?_eq_some_iff.1 hi).1;simpa using this
    have:v=g i:=by simpa [hin] using hi.symm
    rw [this];exact (hg i hin).2
   have hres:=(h ((List.range n).map g) w' (by simp) I.below (fun i v _ hi=>hR i v hi)).1 (fun v hv=>hR q v hv)
   rw [←heq] at hres
   have:=wpAny_of_seq (P:=P) (md:=.any) (ops:=l.toArray) (Q':=Q) (l.drop n) n (Array.replicate n true++Array.replicate (l.length - n) false) a' w' (fun j=>by simp [List.getElem?_drop]) (by simpa using hseq) hres
   simpa using this
 · have hmk : ∀ i,i<n→i ≠ q→(maskL n q).getD i false=true:=fun i hi hiq=>by
    unfold maskL
    simp [Array.getD_eq_getD_getElem?,Array.getElem?_setIfInBounds,Ne.symm hiq,hi]
   have hmq:(maskL n q).getD q false=false:=by
    unfold maskL
    simp [Array.getD_eq_getD_getElem?,Array.getElem?_setIfInBounds,hq]
   have hv : ∀ i,∃ v,i<n→(∃ d,dstAt l i=some d∧a'.tmps[d]? = some v)∧(i ≠ q→R i v w'):=by
    intro i
    by_cases hi:i<n
    · obtain ⟨d,hdl⟩:=hdst i hi
      by_cases hiq:i=q
      · have hdlt:=hd i d hi hdl
        rw [←I.tsize] at hdlt
        exact ⟨a'.tmps[d],fun _=>⟨⟨d,hdl,Array.getElem?_eq_getElem hdlt⟩,fun e=>absurd hiq e⟩⟩
      · obtain ⟨v,h1,h2⟩:=I.head i d hi (hmk i hi hiq) hdl
        exact ⟨v,fun _=>⟨⟨d,hdl,h1⟩,fun _=>h2⟩⟩
    · exact ⟨undef,fun h=>absurd h hi⟩
   obtain ⟨g,hg⟩:=Classical.axiomOfChoice hv
   have heq:=act_of_vals (a:=a) (a':=a') (by omega) B hd I.defers (fun x hx=>I.old x fun i hi _=>hx i hi) g (fun i hi=>(hg i hi).1)
   have hres:=(h ((List.range n).map g) w' (by simp) I.below (fun i v hiq hi=>by
    have hin:i<n:=by have:=(List.getElem?_eq_some_iff.1 hi).1;simpa using this
    have:v=g i:=by simpa [hin] using hi.symm
    rw [this];exact (hg i hin).2 hiq)).2
   rw [←heq] at hres
   have hw:wpOp P l.toArray Q n (wpList P l.toArray Q lo) a' w':=by
    unfold wpOp
    rw [show l.toArray[n]? = some on by simpa using hon]
    exact hres
   refine wpOp_mono (fun a'' w'' h'=>?_) hw
   have:=any_of_seqI is lo _ a'' w'' hlo hsi h'
   rwa [hil] at this
end
end
end Go.Proofs.YtfcbajmjaifjlaaGreat
