/- Tgf, Mpv, Tw1, Tw2: joined by program, for one claim. -/
import Derived.Test.YtfcbajmjaifjlaaGreatM28
import Derived.Test.YtfcbajmjaifjlaaGreatM23
import Derived.Laws.StructEq
import Derived.Test.YtfcbajmjaifjlaaGreatM1
import Derived.WideKeyEntry
set_option linter.unusedVariables false
set_option linter.unusedSimpArgs false
namespace Go.Proofs.YtfcbajmjaifjlaaGreat
section
open Go.RowKit Go.Sort Go.Maps
open Oct
theorem eql_cube (a0 a1 a2 a3 b0 b1 b2 b3:Int) (w:World):(binOp .eql 39 (.agg #[a0,a1,a2,a3]) (.agg #[b0,b1,b2,b3])).run Tryz.prog w = .ok (.bool (decide (a0=b0∧a1=b1∧a2=b2∧a3=b3))) w:=by
 have h1 : Tryz.prog.stoodInHeld 39=false:=by kernel_rfl
 have h2 : Tryz.prog.stoodInHeld 23=false:=by kernel_rfl
 rw [run_eql_struct,run_equalIn_agg _ _ _ _ _ (by kernel_rfl) h1]
 go_simp
 by_cases h3:a0=b0
 rotate_left
 · simp [h3]
 by_cases h4:a1=b1
 rotate_left
 · simp [h4]
 by_cases h5:a2=b2
 rotate_left
 · simp [h5]
 by_cases h6:a3=b3
 rotate_left
 · simp [h6]
 simp [h3,h4,h5,h6]
structure GraftP (gc gp gk gd:Nat) (cx cy cz cl part:Int) (b:Box) (w:World):Prop where
 kc:Bk w gc #[cx,cy,cz,cl] 39
 kp:Bk w gp #[part] 3
 kk:Bk w gk #[.func (.func 156) #[] #[.pointer (some ⟨gd,0,none⟩)]] 152
 kd:Bk w gd #[b.lo.x,b.lo.y,b.lo.z,b.hi.x,b.hi.y,b.hi.z] 25
abbrev GraftF (gc gp gk gd:Nat):Nat→Prop:=fun x=>x=gc∨x=gp∨x=gk∨x=gd
theorem GraftP.stays (gc gp gk gd:Nat) (cx cy cz cl part:Int) (b:Box):Stays (GraftF gc gp gk gd) (GraftP gc gp gk gd cx cy cz cl part b):=fun x y hk h =>
 ⟨h.kc.keeps hk (.inl rfl),h.kp.keeps hk (.inr (.inl rfl)),h.kk.keeps hk (.inr (.inr (.inl rfl))),h.kd.keeps hk (.inr (.inr (.inr rfl)))⟩
theorem GraftP.later {gc gp gk gd:Nat} {cx cy cz cl part:Int} {b:Box} {w w':World} (h:GraftP gc gp gk gd cx cy cz cl part b w) (hb:Below w.heap.size w w'):GraftP gc gp gk gd cx cy cz cl part b w':=⟨h.kc.later hb,h.kp.later hb,h.kk.later hb,h.kd.later hb⟩
theorem graft1_at (gc gp gk gd:Nat) (cx cy cz cl part i:Int) (b:Box) (w:World) (HP:GraftP gc gp gk gd cx cy cz cl part b w) :
 Calls Tryz.prog 120 #[cubeV cx cy cz cl,i,.pointer (some ⟨gc,0,none⟩),.pointer (some ⟨gp,0,none⟩),.pointer (some ⟨gk,0,none⟩)] w fun e' w'=>e'=ret3 part true 0∧Below w.heap.size w w':=by
 go_enter Tryz.func120,Tryz.ntmps120
 go_upto_region 1 with fail
 generalize hW:World.alloc w _=W
 have hB:=bl1 hW
 have kq:Bk W w.heap.size #[cx,cy,cz,cl] 39:=bk0 hW
 have HP2:=HP.later hB
 clear hW
 obtain ⟨c0,c1,c2,c3⟩:=kq.c4
 obtain ⟨d0,d1,d2,d3⟩:=HP2.kc.c4
 have e0:=HP2.kp.cell 0 rfl
 go_wp2_with fail
 go_ret3
 exact ⟨rfl,hB⟩
theorem graft1_off (n:Nat) (hn:n≤14) (ax ay az m:Int) (hm:m=2 ^ n) (hx : -100000≤ax∧ax≤100000) (hy : -100000≤ay∧ay≤100000) (hz : -100000≤az∧az≤100000) (gc gp gk gd:Nat) (cx cy cz cl part i:Int) (b:Box) (w:World) (HP:GraftP gc gp gk gd cx cy cz cl part b w) (hne : ¬(ax=cx∧ay=cy∧az=cz∧(n:Int)=cl)) :
 Calls Tryz.prog 120 #[cubeV ax ay az (n:Int),i,.pointer (some ⟨gc,0,none⟩),.pointer (some ⟨gp,0,none⟩),.pointer (some ⟨gk,0,none⟩)] w fun e' w'=>e'=ret3 i (emptyB (meetB ⟨⟨ax,ay,az⟩,⟨ax+m,ay+m,az+m⟩⟩ b)) 0∧Below w.heap.size w w':=by
 have hap:=Bx.mk (fun W (hb:Below w.heap.size w W)=>apart1_any n hn ax ay az m hm hx hy hz gd b.lo.x b.lo.y b.lo.z b.hi.x b.hi.y b.hi.z i W (HP.later hb).kd)
 rw [show (⟨⟨b.lo.x,b.lo.y,b.lo.z⟩,⟨b.hi.x,b.hi.y,b.hi.z⟩⟩:Box)=b from rfl] at hap
 generalize emptyB (meetB ⟨⟨ax,ay,az⟩,⟨ax+m,ay+m,az+m⟩⟩ b)=z at *
 have heq : ∀ W,(binOp .eql 39 (.agg #[ax,ay,az,(n:Int)]) (.agg #[cx,cy,cz,cl])).run Tryz.prog W = .ok (.bool false) W:=fun W=>by rw [eql_cube,decide_eq_false hne]
 clear hm hx hy hz hne
 go_enter Tryz.func120,Tryz.ntmps120
 go_upto_region 1 with fail
 generalize hW:World.alloc w _=W
 have hB:=bl1 hW
 have kq:Bk W w.heap.size #[ax,ay,az,(n:Int)] 39:=bk0 hW
 have HP2:=HP.later hB
 clear hW
 obtain ⟨c0,c1,c2,c3⟩:=kq.c4
 obtain ⟨d0,d1,d2,d3⟩:=HP2.kc.c4
 have ck:W.cell? ⟨gk,0,none⟩=some (.func (.func 156) #[] #[.pointer (some ⟨gd,0,none⟩)]):=HP2.kk.cell 0 rfl
 go_wp2_with fail
 refine (hap.out _ hB).mono ?_
 rintro e2 w2 ⟨rfl,hb⟩
 have hB2:=Bx.mk (hB.trans (hb.mono hB.size))
 clear heq c0 c1 c2 c3 d0 d1 d2 d3 ck hb hap
 go_wp2_with fail
 go_ret3
 exact ⟨rfl,hB2.out⟩
end
section
open Go.RowKit Go.Maps Go.ChangeMaps Go.WideElems
open Go.WideMaps (KeyLaw)
abbrev selfR:Value→Option (DataW Value × List MemPlace):=fun v=>some (.held v,[])
def MapV (k:TypeId) (w:World) (b n:Nat) (f:Value→Option Value):Prop :=
 ∃ D : DataW Value, w.ownsMap Tryz.prog k selfR b n D ∧
   ∀ key kl,keyOf Tryz.prog k key=some kl→(f key=none→has D kl=false) ∧ ∀ v,f key=some v→has D kl=true ∧ ∀ zd,D.atKey kl zd = .held v
theorem MapV.kept {k:TypeId} {w w':World} {b n:Nat} {f:Value→Option Value} {row:Option Nat} (h:MapV k w b n f) (hg:w.grownBy w' row) (hne:some b ≠ row):MapV k w' b n f:=by
 obtain ⟨D,h1,h2⟩:=h
 exact ⟨D,h1.kept hg hne,h2⟩
theorem MapV.of_block {k:TypeId} {w w':World} {b n:Nat} {f:Value→Option Value} (h:MapV k w b n f) (hb:w'.heap[b]? = w.heap[b]?):MapV k w' b n f:=by
 obtain ⟨D,⟨es,clock,h0,F,hs,hD⟩,h2⟩:=h
 exact ⟨D,⟨es,clock,hb.trans h0,F,hs,hD⟩,h2⟩
theorem MapV.lt {k:TypeId} {w:World} {b n:Nat} {f:Value→Option Value} (h:MapV k w b n f):b<w.heap.size:=by
 obtain ⟨D,h1,_⟩:=h
 exact h1.lt
theorem MapV.mono {k:TypeId} {w:World} {b n m:Nat} {f:Value→Option Value} (h:MapV k w b n f) (hn:n≤m):MapV k w b m f:=by
 obtain ⟨D,h1,h2⟩:=h
 exact ⟨D,h1.mono hn,h2⟩
theorem MapV.made (k:TypeId) (w:World):MapV k (w.alloc (.map #[] 0)) w.heap.size 0 (fun _=>none) :=
 ⟨_,World.ownsMap_made w _ _ _,fun key kl hk=>⟨fun _=>rfl,fun i h=>by cases h⟩⟩
theorem MapV.congr {k:TypeId} {w:World} {b n:Nat} {f f':Value→Option Value} (h:MapV k w b n f) (he : ∀ key kl,keyOf Tryz.prog k key=some kl→f key=f' key):MapV k w b n f':=by
 obtain ⟨D,h1,h2⟩:=h
 refine ⟨D,h1,fun key kl hk=>?_⟩
 rw [←he key kl hk];exact h2 key kl hk
theorem MapV.look {k t e:TypeId} (K:Keyed Tryz.prog k) (ht : Tryz.prog.underlying t=some (.map k e)) {z:Value} {w:World} (hz:(zeroValue e).run Tryz.prog w = .ok z w) {b n:Nat} {f:Value→Option Value} (h:MapV k w b n f) {key:Value} {kl:Lit} (hkey:keyOf Tryz.prog k key=some kl) :
 (Instr.lookup t (.map (some b)) key false).run Tryz.prog w = .ok ((f key).getD z) w∧(Instr.lookup t (.map (some b)) key true).run Tryz.prog w = .ok (.tuple #[(f key).getD z,.bool (f key).isSome]) w:=by
 obtain ⟨D,h1,h2⟩:=h
 obtain ⟨v,ps,hrun,hv⟩:=h1.look_ok K ht hz (R:=selfR) (z:=z) (zd:=.held z) (zp:=[]) rfl hkey
 obtain ⟨v',ps',hrun',hv'⟩:=h1.lookup K ht hz (R:=selfR) (z:=z) (zd:=.held z) (zp:=[]) rfl hkey
 have e1:DataW.held v=D.atKey kl (.held z):=congrArg Prod.fst (Option.some.inj hv)
 have e2:DataW.held v'=D.atKey kl (.held z):=congrArg Prod.fst (Option.some.inj hv')
 obtain ⟨k1,k2⟩:=h2 key kl hkey
 cases hf:f key with
 | none =>
   rw [k1 hf] at hrun
   rw [atKey_of_not_has (k1 hf)] at e1 e2
   injection e1 with e1;injection e2 with e2
   subst e1;subst e2
   exact ⟨hrun',hrun⟩
 | some u =>
   obtain ⟨g1,g2⟩:=k2 u hf
   rw [g1] at hrun
   rw [g2] at e1 e2
   injection e1 with e1;injection e2 with e2
   subst e1;subst e2
   exact ⟨hrun',hrun⟩
open Classical in
noncomputable def putV (f:Value→Option Value) (key v:Value):Value→Option Value:=fun x=>if x=key then some v else f x
theorem putV_same (f:Value→Option Value) (key v:Value):putV f key v key=some v:=by unfold putV;rw [if_pos rfl]
theorem putV_other (f:Value→Option Value) {key x:Value} (v:Value) (h:x ≠ key):putV f key v x=f x:=by unfold putV;rw [if_neg h]
theorem MapV.after {k:TypeId} (K:Keyed Tryz.prog k) {w w':World} {b n m:Nat} {f:Value→Option Value} {D:DataW Value} (hD:w.ownsMap Tryz.prog k selfR b n D) {key v:Value} {kl:Lit} (hkey:keyOf Tryz.prog k key=some kl)
 (h2 : ∀ key kl,keyOf Tryz.prog k key=some kl→(f key=none→has D kl=false) ∧ ∀ v,f key=some v→has D kl=true ∧ ∀ zd,D.atKey kl zd = .held v)
 (h3:w'.ownsMap Tryz.prog k selfR b m (D.put kl (.held v))):MapV k w' b m (putV f key v):=by
 have hm:=hD.isMap
 refine ⟨_,h3,fun key' kl' hk'=>?_⟩
 by_cases e:key'=key
 · subst e
   obtain rfl:kl'=kl:=Option.some.inj (hk'.symm.trans hkey)
   rw [putV_same]
   refine ⟨(fun h=>by cases h),fun j hj=>?_⟩
   obtain rfl:=Option.some.inj hj
   exact ⟨has_put_same hm (K.key hkey) _,fun zd=>atKey_put_same hm (K.key hkey) _ _⟩
 · have hne:kl' ≠ kl:=fun e'=>e (K.inj hk' (e' ▸ hkey))
   rw [putV_other f v e]
   obtain ⟨k1,k2⟩:=h2 key' kl' hk'
   exact ⟨fun h=>by rw [has_put_other hne];exact k1 h,fun j hj=>⟨by rw [has_put_other hne];exact (k2 j hj).1,fun zd=>by rw [atKey_put_other hne];exact (k2 j hj).2 zd⟩⟩
theorem MapV.put {k t e:TypeId} (K:Keyed Tryz.prog k) (ht : Tryz.prog.underlying t=some (.map k e)) {w:World} {b n:Nat} {f:Value→Option Value} (h:MapV k w b n f) (hn:n<maxLen) {key:Value} {kl:Lit} (hkey:keyOf Tryz.prog k key=some kl) (v:Value) :
 ∃ w',(Instr.mapUpdate t (.map (some b)) key v).run Tryz.prog w = .ok () w'∧MapV k w' b (n+1) (putV f key v)∧w.grownBy w' (some b)∧w'.heap.size=w.heap.size:=by
 obtain ⟨D,h1,h2⟩:=h
 obtain ⟨w',hrun,h3,h4⟩:=h1.store K ht hn hkey (R:=selfR) (val:=v) rfl
 refine ⟨w',hrun,MapV.after K h1 hkey h2 h3,h4.grown,?_⟩
 obtain ⟨es,clock,es',clock',hb,rfl⟩:=h4
 show (w.heap.setIfInBounds b _).size=_
 simp
set_option maxRecDepth 100000 in
theorem MapV.entry {k t e:TypeId} (L:KeyLaw Tryz.prog k) (ht : Tryz.prog.underlying t=some (.map k e)) {z:Value} (hz : ∀ u:World,(zeroValue e).run Tryz.prog u = .ok z u) {w:World} {b n:Nat} {f:Value→Option Value} (h:MapV k w b n f) (hn:n<maxLen) {key:Value} {kl:Lit} (hkey:keyOf Tryz.prog k key=some kl) :
 ∃ (st : Nat) (w1 : World), (Instr.mapEntry t (.map (some b)) key).run Tryz.prog w = .ok (.tuple #[(f key).getD z, .int .i64 st]) w1 ∧ w.grownBy w1 (some b) ∧ w1.heap.size = w.heap.size ∧
   ∀ (w2:World) (v:Value),w2.heap[b]? = w1.heap[b]? → ∃ w3,(Instr.entryStore t (.map (some b)) (.int .i64 st) v).run Tryz.prog w2 = .ok () w3∧MapV k w3 b (n+1) (putV f key v)∧w2.grownBy w3 (some b)∧w3.heap.size=w2.heap.size:=by
 have K:=Keyed.of_law L
 have hlook:=(MapV.look K ht (hz w) h hkey).1
 obtain ⟨D,h1,h2⟩:=h
 obtain ⟨es,clock,hb,F,hs,rfl⟩:=h1
 obtain ⟨v0,st,es1,clock1,hrun,hv0,hst⟩:=WideElems.entry_then_store L ht hz hb F hkey
 have e0:v0=(f key).getD z:=by
  have hm:=(⟨es,clock,hb,F,hs,rfl⟩:w.ownsMap Tryz.prog k selfR b n (.map ((es.toList.map (WideElems.rg Tryz.prog k selfR)).foldr DataW.insert [])))
  rcases Maps.fit_look false K ht (hz w) hb F hkey with ⟨g1,g2,-⟩ | ⟨e0,y,g0,g3,g1,-,-,-⟩
  · rw [g1] at hlook
    injection hlook with hl _
    rcases hv0 with ⟨x,hx,hxk,-⟩ | ⟨-,rfl⟩
    · exact absurd hxk (g2 x hx)
    · exact hl
  · rw [g1] at hlook
    injection hlook with hl _
    rcases hv0 with ⟨x,hx,hxk,rfl⟩ | ⟨hno,-⟩
    · rcases K.find w hkey es.toList F.keys with ⟨-,q2⟩ | ⟨j,e9,q1,q2,q3⟩
      · exact absurd hxk (q2 x hx)
      · have hn:=((MapKept.stamped_iff es clock).1 F.stamped).2.2
        have uniq : ∀ a∈es.toList,∀ c∈es.toList,a.key=c.key→a=c:=by
         intro a ha c hc hac
         rcases List.mem_iff_getElem.1 ha with ⟨i,hi,rfl⟩
         rcases List.mem_iff_getElem.1 hc with ⟨i',hi',rfl⟩
         by_cases hii:i=i'
         · subst hii;rfl
         · exfalso
           rcases Nat.lt_or_gt_of_ne hii with hlt | hlt
           · exact List.pairwise_iff_getElem.1 hn i i' hi hi' hlt hac
           · exact List.pairwise_iff_getElem.1 hn i' i hi' hi hlt hac.symm
        rw [uniq x hx e0 g0 (hxk.trans g3.symm)]
        exact hl
    · exact absurd g3 (hno e0 g0)
 subst e0
 refine ⟨st,setBlock w b (.map es1 clock1),hrun,⟨rfl,rfl,rfl,by simp [setBlock],fun i _ hi=>heap_setBlock_other hb _ (fun e=>hi (by rw [e]))⟩,by simp [setBlock],fun w2 v hw2=>?_⟩
 rw [heap_setBlock_same hb] at hw2
 obtain ⟨es',clock',hr1,hr2⟩:=hst w2 v hw2
 refine ⟨_,hr1,?_,⟨rfl,rfl,rfl,by simp [setBlock],fun i _ hi=>heap_setBlock_other hw2 _ (fun e=>hi (by rw [e]))⟩,by simp [setBlock]⟩
 have h1:w.ownsMap Tryz.prog k selfR b n (.map ((es.toList.map (WideElems.rg Tryz.prog k selfR)).foldr DataW.insert [])):=⟨es,clock,hb,F,hs,rfl⟩
 obtain ⟨w',hrun',h3,-⟩:=h1.store K ht hn hkey (R:=selfR) (val:=v) rfl
 rw [hr2] at hrun'
 injection hrun' with _ hw'
 obtain ⟨es3,clock3,hb3,F3,hs3,hD3⟩:=h3
 rw [←hw',heap_setBlock_same hb] at hb3
 injection hb3 with hb3
 injection hb3 with q1 q2
 subst q1;subst q2
 exact MapV.after K h1 hkey h2 ⟨es',clock',heap_setBlock_same hw2 _,F3,hs3,hD3⟩
end
section
open Go.RowKit Go.Sort Go.Maps
open Go.WideMaps (KeyLaw)
open Oct
theorem cubeLaw:KeyLaw Tryz.prog 39:=deep_law_laid nodeLaid (m:=3) (by omega) (of_decide_eq_true (by kernel_rfl)) (by kernel_rfl) (by kernel_rfl)
theorem cubeKeyed:Keyed Tryz.prog 39:=Keyed.of_law cubeLaw
theorem cubeCells : Tryz.prog.cellsOf 39=4:=by kernel_rfl
theorem pointCells : Tryz.prog.cellsOf 23=3:=by kernel_rfl
theorem cubeKeyType : Tryz.prog.keyType 39=true:=by kernel_rfl
theorem key_cube (x y z l:Int) (h : ∀ q∈[x,y,z,l],(Lit.int .i64 q).wf=true) : ∃ kl,keyOf Tryz.prog 39 (cubeV x y z l)=some kl:=by
 simp only [List.mem_cons,List.not_mem_nil,or_false,forall_eq_or_imp,forall_eq] at h
 obtain ⟨h1,h2,h3,h4⟩:=h
 obtain ⟨m,hm⟩:=typesMany
 unfold keyOf cubeV
 rw [Tryz.underlying39,hm]
 simp [cubeKeyType,Value.formed,Tryz.underlying39,cubeCells,Program.keyLits,Value.cells,Tryz.underlying23,Tryz.underlying3,intCells,pointCells,h1,h2,h3,h4,List.range_succ,List.mapM_cons,List.mapM_nil]
 rw [if_pos (by decide)]
 exact ⟨_,rfl⟩
theorem cubeV_inj {x y z l x' y' z' l':Int} (h:cubeV x y z l=cubeV x' y' z' l'):x=x'∧y=y'∧z=z'∧l=l':=by
 unfold cubeV at h
 injection h with h
 simp at h
 exact h
theorem wf_small (q:Int) (h:0≤q∧q≤16384):(Lit.int .i64 q).wf=true:=by
 have e:IntKind.i64.min = -9223372036854775808:=rfl
 have:=IntWalk.i64_in q (by omega)
 simp [Lit.wf,this,e]
 omega
theorem zeroB (w:World):(zeroValue 4).run Tryz.prog w = .ok (.bool false) w:=by kernel_rfl
theorem zeroC (w:World):(zeroValue 37).run Tryz.prog w = .ok (.slice none 0 0) w:=by kernel_rfl
theorem i64_andNot (x:Int) (i:Nat) (h0:0≤x) (h1:x≤1000000000) (hi:i≤30):bits .andNot .i64 x (2 ^ i - 1)=x - x % 2 ^ i:=by
 obtain ⟨a,rfl⟩:=Int.eq_ofNat_of_zero_le h0
 have hpos:0<2 ^ i:=Nat.two_pow_pos i
 have h30:2 ^ i≤2 ^ 30:=Nat.pow_le_pow_right (by decide) hi
 have hc:((2:Int) ^ i - 1)=((2 ^ i - 1:Nat):Int):=by
  rw [Int.natCast_sub hpos];simp
 rw [hc]
 show IntKind.i64.wrap ((BitVec.ofInt 64 (a:Int) &&& ~~~BitVec.ofInt 64 ((2 ^ i - 1:Nat):Int)).toNat:Int)=_
 have e:(BitVec.ofInt 64 (a:Int) &&& ~~~BitVec.ofInt 64 ((2 ^ i - 1:Nat):Int))=BitVec.ofNat 64 (a / 2 ^ i * 2 ^ i):=by
  apply BitVec.eq_of_getLsbD_eq
  intro j hj
  simp only [BitVec.ofInt_natCast,BitVec.getLsbD_and,BitVec.getLsbD_not,BitVec.getLsbD_ofNat,Nat.testBit_two_pow_sub_one,Nat.testBit_mul_two_pow,Nat.testBit_div_two_pow,hj,decide_true,Bool.true_and]
  by_cases h:j<i
  · simp [h]
    omega
  · rw [show j - i+i=j by omega]
    simp [h]
    omega
 rw [e,BitVec.toNat_ofNat]
 have hle:a / 2 ^ i * 2 ^ i≤a:=Nat.div_mul_le_self a (2 ^ i)
 rw [Nat.mod_eq_of_lt (by omega),IntWalk.i64_in _ (by omega)]
 have h3:=Nat.div_add_mod a (2 ^ i)
 have h4:((2:Int) ^ i)=((2 ^ i:Nat):Int):=by simp
 rw [h4]
 rw [Nat.mul_comm] at h3
 omega
theorem MapV.drewN {k:TypeId} {w:World} {b n:Nat} {f:Value→Option Value} (h:MapV k w b n f) (d:Nat):MapV k (w.drewN d) b n f:=h.of_block (by simp)
set_option maxHeartbeats 1000000 in
theorem write1_any (ax ay az l i:Int) (vt tm m:Nat) (ft:Value→Option Value) (t:Bool) (hwf : ∀ q∈[ax,ay,az,l],(Lit.int .i64 q).wf=true) (hft:(ft (cubeV ax ay az l)).getD (.bool false) = .bool t) (w:World) (kt:Bk w vt #[.map (some tm)] 160) (hM:MapV 39 w tm m ft) :
 Calls Tryz.prog 117 #[cubeV ax ay az l,i,.pointer (some ⟨vt,0,none⟩)] w fun e' w'=>e'=ret3 i (!t) 0∧Below w.heap.size w w':=by
 obtain ⟨kl,hkl⟩:=key_cube ax ay az l hwf
 have HM:=Bx.mk hM
 have Kt:=Bx.mk kt
 have Hk:=Bx.mk hkl
 have Hf:=Bx.mk hft
 clear hM kt hkl hft hwf
 go_enter Tryz.func117,Tryz.ntmps117
 go_upto_region 1 with fail
 generalize hW:World.alloc w _=W
 have hB:=bl1 hW
 have kc:Bk W w.heap.size #[ax,ay,az,l] 39:=bk0 hW
 clear hW
 obtain ⟨c0,c1,c2,c3⟩:=kc.c4
 have t0:=(Kt.out.later hB).cell 0 rfl
 have HM2:=Bx.mk (HM.out.of_block (hB.block tm HM.out.lt))
 have hl : ∀ d,(Instr.lookup 160 (.map (some tm)) (.agg #[ax,ay,az,l]) false).run Tryz.prog (W.drewN d) = .ok (.bool t) (W.drewN d):=fun d=>by
  rw [(MapV.look cubeKeyed Tryz.underlying160 (zeroB _) (HM2.out.drewN d) Hk.out).1,Hf.out]
 go_quiet (fail)
 go_wp2_with fail
 go_ret3
 exact ⟨rfl,hB.trans ⟨rfl,rfl,rfl,Nat.le_refl _,fun _ _=>rfl⟩⟩
end
section
open Go.RowKit Go.Sort Go.Maps
open Oct
set_option maxRecDepth 100000 in
set_option maxHeartbeats 1000000 in
theorem write_brick (ax ay az:Int) (hx:0≤ax∧ax≤16384) (hy:0≤ay∧ay≤16384) (hz:0≤az∧az≤16384) (vb bm m g Bd cap:Nat) (fb:Value→Option Value) (hc:Option Addr) (hcp:Nat) (xs:List Int) (cs:List Chg) (hl:xs.length=64) (hC:cs.length≤4194304) (hcap:cs.length≤hcp) (hfb:(fb (cubeV ax ay az 2)).getD (.slice none 0 0) = .slice hc cs.length hcp) (w:World) (kb:Bk w vb #[.map (some bm)] 159) (hM:MapV 39 w bm m fb) (hs:SlC w hc cs) (ho:Own w Bd 3 .i64 (.slice (some ⟨g,0,none⟩) xs.length cap) xs) :
 Calls Tryz.prog 118 #[cubeV ax ay az 2,.slice (some ⟨g,0,none⟩) xs.length cap,.pointer (some ⟨vb,0,none⟩)] w fun e' w'=>e' = .returned (.tuple #[])∧Own w' Bd 3 .i64 (.slice (some ⟨g,0,none⟩) xs.length cap) (wrL ⟨⟨ax,ay,az⟩,⟨ax+4,ay+4,az+4⟩⟩ cs xs)∧Keeps (fun k=>k<Bd) w w':=by
 obtain ⟨kl,hkl⟩:=key_cube ax ay az 2 (by
  intro q hq
  simp only [List.mem_cons,List.not_mem_nil,or_false] at hq
  have:0≤q∧q≤16384:=by rcases hq with rfl | rfl | rfl | rfl <;> omega
  exact wf_small q this)
 have Hk:=Bx.mk hkl
 have Hf:=Bx.mk hfb
 clear hkl hfb
 have hbox:=Bx.mk (fun W=>box_any 2 (by omega) ax ay az 4 (by decide) (by omega) (by omega) (by omega) W)
 rw [show ((2:Nat):Int)=2 from rfl] at hbox
 have hSA:Small ⟨⟨ax,ay,az⟩,⟨ax+4,ay+4,az+4⟩⟩ 1048575:=⟨by simp only [];omega,by simp only [];omega,by simp only [];omega,by simp only [];omega,by simp only [];omega,by simp only [];omega⟩
 have hxl:xs.length=(volB ⟨⟨ax,ay,az⟩,⟨ax+4,ay+4,az+4⟩⟩).toNat:=by rw [hl,(cube4 ax ay az).2.2];rfl
 have hg:=Bx.mk (fun W h0 h=>gridWrite_any ax ay az (ax+4) (ay+4) (az+4) (some ⟨g,0,none⟩) hc cap hcp xs cs W hC hcap h0 hSA hxl (by omega) (by omega) h)
 unfold RetG1 at hg
 have hzl:(wrL ⟨⟨ax,ay,az⟩,⟨ax+4,ay+4,az+4⟩⟩ cs xs).length=64:=by rw [wrL_len,hl]
 have Hzl:=Bx.mk hzl
 generalize (wrL ⟨⟨ax,ay,az⟩,⟨ax+4,ay+4,az+4⟩⟩ cs xs)=zs at *
 have HL:=Bx.mk hl
 clear hl
 clear hSA hxl hx hy hz hzl hC hcap
 go_enter Tryz.func118,Tryz.ntmps118
 go_upto_region 1 with fail
 generalize hW:World.alloc w _=W
 have hB:=bl1 hW
 have kp:Bk W (w.heap.size) #[ax,ay,az,(2:Int)] 39:=bk0 hW
 clear hW
 have KP:=Bx.mk kp
 have KB:=Bx.mk (kb.later hB)
 have HM:=Bx.mk (hM.of_block (hB.block bm hM.lt))
 have HS:=Bx.mk (hs.below hB)
 have HO:=Bx.mk (ho.below hB)
 have HB:=Bx.mk hB
 have hgl:=(ho.lt g rfl)
 have hWs:=hB.size
 clear kp kb hs ho hB hM
 refine wp_region_rel 9 (fun i v w'=>match i with
  | 0=>v=cubeV ax ay az 2
  | 1=>v = .agg #[ax,ay,az,.int .i64 (ax+4),.int .i64 (ay+4),.int .i64 (az+4)]
  | 2=>v = .slice (some ⟨g,0,none⟩) xs.length cap
  | 3=>v = .agg #[ax,ay,az,.int .i64 (ax+4),.int .i64 (ay+4),.int .i64 (az+4),.slice (some ⟨g,0,none⟩) xs.length cap]
  | 4=>v = .map (some bm)
  | 5=>v=cubeV ax ay az 2
  | 6=>v = .slice hc cs.length hcp
  | 7 => ∃ pa pc,v = .agg #[ax,ay,az,.int .i64 (ax+4),.int .i64 (ay+4),.int .i64 (az+4),.slice pa xs.length pc]∧Own w' W.heap.size 3 .i64 (.slice pa xs.length pc) zs
  | _ => ∃ g2,v = .pointer (some ⟨g2,0,none⟩)∧W.heap.size≤g2∧Bk w' g2 #[(0:Int),(0:Int),(0:Int),(0:Int),(0:Int),(0:Int),.slice none 0 0] 28) (by kernel_rfl) (by kernel_rfl) 18 (by kernel_rfl) (by rfl) ?_ ?_ ?_
 · intro i hi v u1 u2 hb h
   match i,hi with
   | 0,_=>exact h
   | 1,_=>exact h
   | 2,_=>exact h
   | 3,_=>exact h
   | 4,_=>exact h
   | 5,_=>exact h
   | 6,_=>exact h
   | 7,_=>obtain ⟨pa,pc,h1,h2⟩:=h;exact ⟨pa,pc,h1,h2.below hb⟩
   | 8,_=>obtain ⟨g2,h1,h2,h3⟩:=h;exact ⟨g2,h1,h2,h3.later hb⟩
 · intro i o hi ho ρ w1 hb hc1 hc2 hc3 hk
   match i,hi with
   | 0, _ =>
     obtain rfl:=Option.some.inj ho
     have h2:ρ (.tmp 3) = .pointer (some ⟨w.heap.size,0,none⟩):=hk 3 (by simp [Op.operands])
     have k1:=KP.out.later hb
     obtain ⟨c0,c1,c2,c3⟩:=k1.c4
     clear hk hb hbox hg
     go_simp
     exact Below.refl _ _
   | 1, _ =>
     obtain rfl:=Option.some.inj ho
     have h2:ρ (.tmp 6)=cubeV ax ay az 2:=hk 6 (by simp [Op.operands,Call.operands])
     have h4:=hbox.out w1
     have H4:=Bx.mk h4
     clear hk hb h4 hbox hg
     go_simp
     all_goals exact H4.out
   | 2, _ =>
     obtain rfl:=Option.some.inj ho
     have h2:ρ (.tmp 1) = .slice (some ⟨g,0,none⟩) xs.length cap:=hk 1 (by simp [Op.operands])
     clear hk hb hbox hg
     go_simp
     exact Below.refl _ _
   | 3, _ =>
     obtain rfl:=Option.some.inj ho
     have h2:ρ (.tmp 7) = .agg #[ax,ay,az,.int .i64 (ax+4),.int .i64 (ay+4),.int .i64 (az+4)]:=hk 7 (by simp [Op.operands])
     have h3:ρ (.tmp 8) = .slice (some ⟨g,0,none⟩) xs.length cap:=hk 8 (by simp [Op.operands])
     clear hk hb hbox hg
     go_simp
     exact Below.refl _ _
   | 4, _ =>
     obtain rfl:=Option.some.inj ho
     have h2:ρ (.tmp 2) = .pointer (some ⟨vb,0,none⟩):=hk 2 (by simp [Op.operands])
     have k1:=KB.out.later hb
     have c0:=k1.cell 0 rfl
     clear hk hb hbox hg
     go_simp
     exact Below.refl _ _
   | 5, _ =>
     obtain rfl:=Option.some.inj ho
     have h2:ρ (.tmp 3) = .pointer (some ⟨w.heap.size,0,none⟩):=hk 3 (by simp [Op.operands])
     have k1:=KP.out.later hb
     obtain ⟨c0,c1,c2,c3⟩:=k1.c4
     clear hk hb hbox hg
     go_simp
     exact Below.refl _ _
   | 6, _ =>
     obtain rfl:=Option.some.inj ho
     have h2:ρ (.tmp 10) = .map (some bm):=hk 10 (by simp [Op.operands])
     have h3:ρ (.tmp 11)=cubeV ax ay az 2:=hk 11 (by simp [Op.operands])
     have hl:(Instr.lookup 159 (.map (some bm)) (cubeV ax ay az 2) false).run Tryz.prog w1 = .ok (.slice hc cs.length hcp) w1:=by
      rw [(MapV.look cubeKeyed Tryz.underlying159 (zeroC _) (HM.out.of_block (hb.block bm HM.out.lt)) Hk.out).1,Hf.out]
     clear hk hb hbox hg
     go_simp
     exact Below.refl _ _
   | 7, _ =>
     obtain rfl:=Option.some.inj ho
     have h2:ρ (.tmp 9) = .agg #[ax,ay,az,.int .i64 (ax+4),.int .i64 (ay+4),.int .i64 (az+4),.slice (some ⟨g,0,none⟩) xs.length cap]:=hk 9 (by simp [Op.operands,Call.operands])
     have h3:ρ (.tmp 12) = .slice hc cs.length hcp:=hk 12 (by simp [Op.operands,Call.operands])
     have h4:=(hg.out w1 (HS.out.below hb) (by obtain ⟨a1,c1,e1,h1⟩:=(HO.out.below hb).form;injection e1 with e1 _ _;subst e1;exact h1)).mono (R':=fun e' w'' => ∃ v,e' = .returned v∧Below w1.heap.size w1 w'' ∧ ∃ pa pc,v = .agg #[ax,ay,az,.int .i64 (ax+4),.int .i64 (ay+4),.int .i64 (az+4),.slice pa xs.length pc]∧Own w'' W.heap.size 3 .i64 (.slice pa xs.length pc) zs) (fun e' w'' ⟨pa,pc,x,_,y,z⟩=>⟨_,x,z,pa,pc,rfl,y.base hb.size⟩)
     have H4:=Bx.mk h4
     clear hk hb h4 hbox hg
     go_simp
     all_goals exact H4.out
   | 8, _ =>
     obtain rfl:=Option.some.inj ho
     have hbs:=hb.size
     have hnew:Bk (w1.alloc (.cells #[(0:Int),(0:Int),(0:Int),(0:Int),(0:Int),(0:Int),.slice none 0 0] 28)) w1.heap.size #[(0:Int),(0:Int),(0:Int),(0:Int),(0:Int),(0:Int),.slice none 0 0] 28:=Bk.new _ _ _
     have Hn:=Bx.mk hnew
     clear hk hb hbox hg hnew
     go_simp
     exact ⟨(Below.refl _ _).alloc (Nat.le_refl _) _,Hn.out⟩
 · intro vs W1 hlen hb hR
   match vs,hlen with
   | [v0, v1, v2, v3, v4, v5, v6, v7, v8], _ =>
     have r0:v0=cubeV ax ay az 2:=hR 0 v0 rfl
     have r1:v1 = .agg #[ax,ay,az,.int .i64 (ax+4),.int .i64 (ay+4),.int .i64 (az+4)]:=hR 1 v1 rfl
     have r2:v2 = .slice (some ⟨g,0,none⟩) xs.length cap:=hR 2 v2 rfl
     have r3:v3 = .agg #[ax,ay,az,.int .i64 (ax+4),.int .i64 (ay+4),.int .i64 (az+4),.slice (some ⟨g,0,none⟩) xs.length cap]:=hR 3 v3 rfl
     have r4:v4 = .map (some bm):=hR 4 v4 rfl
     have r5:v5=cubeV ax ay az 2:=hR 5 v5 rfl
     have r6:v6 = .slice hc cs.length hcp:=hR 6 v6 rfl
     obtain ⟨pa,pc,r7,hown⟩ : ∃ pa pc,v7 = .agg #[ax,ay,az,.int .i64 (ax+4),.int .i64 (ay+4),.int .i64 (az+4),.slice pa xs.length pc]∧Own W1 W.heap.size 3 .i64 (.slice pa xs.length pc) zs:=hR 7 v7 rfl
     obtain ⟨g2,r8,hg2,kg⟩ : ∃ g2,v8 = .pointer (some ⟨g2,0,none⟩)∧W.heap.size≤g2∧Bk W1 g2 #[(0:Int),(0:Int),(0:Int),(0:Int),(0:Int),(0:Int),.slice none 0 0] 28:=hR 8 v8 rfl
     subst r0 r1 r2 r3 r4 r5 r6 r7 r8
     clear hR hbox hg
     obtain ⟨g3,c3,hv3,-,-,-,-,-⟩:=hown.at (by rw [Hzl.out];decide)
     injection hv3 with e1 e2 e3
     subst e1
     clear e2 e3
     have hne:g3 ≠ g2:=fun e=>by
      obtain ⟨cur3,q1,-⟩:=hown.raw
      rw [e] at q1
      have q2:W1.heap[g2]? = _:=kg
      rw [q1] at q2
      injection q2 with q2
      injection q2 with _ q2
      exact absurd q2 (by decide)
     have Hown:=Bx.mk hown
     have Hb:=Bx.mk hb
     clear hown hb
     have cg0:=kg.cell 0 rfl
     have fg0:=kg.frozen 0
     have cg1:=kg.cell 1 rfl
     have fg1:=kg.frozen 1
     have cg2:=kg.cell 2 rfl
     have fg2:=kg.frozen 2
     have cg3:=kg.cell 3 rfl
     have fg3:=kg.frozen 3
     have cg4:=kg.cell 4 rfl
     have fg4:=kg.frozen 4
     have cg5:=kg.cell 5 rfl
     have fg5:=kg.frozen 5
     have cg6:=kg.cell 6 rfl
     have fg6:=kg.frozen 6
     simp only [puts,List.take_succ_cons,List.take_zero,List.drop_succ_cons,List.drop_zero,List.map_cons,List.map_nil,List.zip_cons_cons,List.zip_nil_right,List.foldl_cons,List.foldl_nil]
     go_upto_region 2 with fail
     have kg5:=kg.put7 (.int .i64 ax) (.int .i64 ay) (.int .i64 az) (.int .i64 (ax+4)) (.int .i64 (ay+4)) (.int .i64 (az+4)) (.slice (some ⟨g3,0,none⟩) xs.length pc)
     have hgr:W1.grownBy _ (some g2):=grown_set (grown_set (grown_set (grown_set (grown_set (grown_set (grown_set (World.grownBy.refl W1 (some g2)) 0 (.int .i64 ax)) 1 (.int .i64 ay)) 2 (.int .i64 az)) 3 (.int .i64 (ax+4))) 4 (.int .i64 (ay+4))) 5 (.int .i64 (az+4))) 6 (.slice (some ⟨g3,0,none⟩) xs.length pc)
     clear cg0 fg0 cg1 fg1 cg2 fg2 cg3 fg3 cg4 fg4 cg5 fg5 cg6 fg6 kg
     generalize World.setCell _ ⟨g2,6,none⟩ _=W5 at *
     have hg2w:Bd≤g2∧g ≠ g2:=by omega
     have hown5:Own W5 W.heap.size 3 .i64 (.slice (some ⟨g3,0,none⟩) xs.length pc) zs:=World.ownsRow.kept Hown.out hgr (.inr (fun e=>by injection e with e;exact hne e))
     have ho5:Own W5 Bd 3 .i64 (.slice (some ⟨g,0,none⟩) xs.length cap) xs:=World.ownsRow.kept (HO.out.below Hb.out) hgr (.inr (fun e=>by injection e with e;exact hg2w.2 e))
     obtain ⟨a3,c3',hv3,hsl3⟩:=hown5.form
     injection hv3 with e1 e2 e3
     subst e1
     clear e2 e3
     obtain ⟨cur,q1,q2,q3,q4,q5,q6,q7⟩:=ho5.raw
     have HK:=Bx.mk ((((Keeps.below HB.out).trans (Keeps.below Hb.out)).trans (Keeps.grown hgr (fun k e hk=>by injection e with e;subst e;have:g2<Bd:=hk;omega))):Keeps (fun k=>k<Bd) w W5)
     have hcop:=Bx.mk (copied q1 q2 q4 q5 q6 (zs:=zs) (by rw [Hzl.out,HL.out]) (xs:=xs))
     have cc6:W5.cell? ⟨g2,6,none⟩=some (.slice (some ⟨g3,0,none⟩) xs.length pc):=kg5.cell 6 rfl
     have Q1:=Bx.mk q1
     have HSL:=Bx.mk hsl3
     have hn1:(zs.map (Value.int .i64)).length=Nat.min xs.length xs.length:=by rw [List.length_map,Hzl.out,HL.out];rfl
     have hfit:0+(zs.map (Value.int .i64)).length≤cur.toArray.size:=by rw [List.length_map,Hzl.out,List.size_toArray,q2];have:=HL.out;omega
     have HN1:=Bx.mk hn1
     have HF1:=Bx.mk hfit
     clear hown5 ho5 hsl3 kg5 hgr q1 q3 Hown q2 q4 q5 q6 q7 hn1 hfit hg2w hgl hWs hg2 hne
     go_wp2_with (refine wpList_copy_own rfl (.tmp 14) (.tmp 16) 26 26 rfl 3 Tryz.underlying26 (by kernel_rfl) g 0 xs.length cap ⟨g3,0,none⟩ xs.length pc rfl rfl cur.toArray 3 Q1.out (zs.map (Value.int .i64)) HN1.out (src_cells HSL.out) HF1.out (one_cells zs) ?_)
     go_end0
     exact ⟨rfl,hcop.out.1,HK.out.trans hcop.out.2⟩
end
end Go.Proofs.YtfcbajmjaifjlaaGreat
