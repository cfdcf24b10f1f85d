/- Pgm, Dis, Now: joined by program, for one claim. -/
import Derived.Test.YtajhkncolbgkbaaDoorM1
import Derived.Test.YtajhkncolbgkbaaDoorM4
import Derived.Maps.RangeWalk
import Derived.Maps.OwnSet
import Derived.Maps.Views
import Derived.Maps.Ext
import Derived.Test.YtajhkncolbgkbaaDoorM3
import Derived.Deep.Cut
import Derived.Deep.CutRange
import Derived.Deep.RegionHeld3
import Derived.Deep.QuietTactic
import Derived.BigQuiet
import Derived.Laws.CopyOwn
set_option linter.unusedVariables false
set_option linter.unusedSimpArgs false
namespace Go.Proofs.YtajhkncolbgkbaaDoor
section
open Go.RowKit Go.Maps Go.MapKept Go.ChangeMaps
def encP (xs:List Int):DataW Unit:=.agg (xs.map fun x=>.lit (.int .u8 x))
theorem encP_inj {xs ys:List Int} (h:encP xs=encP ys):xs=ys:=by
 unfold encP at h
 injection h with h
 exact (List.map_inj_right (fun a b e=>by injection e with e;injection e)).1 h
theorem arrV_inj {xs ys:List Int} (h:arrV .u8 xs=arrV .u8 ys):xs=ys:=by
 unfold arrV at h
 injection h with h
 have h:=congrArg Array.toList h
 exact (List.map_inj_right (fun a b e=>by injection e)).1 h
open Classical in
noncomputable def pageE (v:Value):Option (DataW Unit × List MemPlace) :=
 if h : ∃ xs:List Int,v=arrV .u8 xs∧xs.length=128 then some (encP h.choose,[]) else none
theorem pageE_mk {xs:List Int} (h:xs.length=128):pageE (arrV .u8 xs)=some (encP xs,[]):=by
 have he : ∃ ys:List Int,arrV .u8 xs=arrV .u8 ys∧ys.length=128:=⟨xs,rfl,h⟩
 unfold pageE
 rw [dif_pos he,arrV_inj he.choose_spec.1.symm]
theorem pageE_inv {v:Value} {y:DataW Unit × List MemPlace} (h:pageE v=some y) : ∃ xs:List Int,v=arrV .u8 xs∧xs.length=128∧y=(encP xs,[]):=by
 unfold pageE at h
 split at h
 · rename_i he
   injection h with h
   exact ⟨_,he.choose_spec.1,he.choose_spec.2,h.symm⟩
 · cases h
theorem intKeyed:Keyed Tryd.prog 3:=int_keyed Tryd.underlying3
theorem keyOf_i {x:Int} (h:(Lit.int .i64 x).wf=true):keyOf Tryd.prog 3 (.int .i64 x)=some (.int .i64 x):=keyOf_int_mk Tryd.underlying3 h
theorem wf_nat {i:Nat} (h:i≤9223372036854775807):(Lit.int .i64 (i:Int)).wf=true:=by
 exact WalkArith.wf_i64 ⟨by omega,by omega⟩
def pendI (p:List Pg) (x:Int):Option (List Int):=if 0≤x then p[x.toNat]?.bind (·.2) else none
theorem pendI_nat (p:List Pg) (i:Nat):pendI p (i:Int)=p[i]?.bind (·.2):=by
 unfold pendI
 rw [if_pos (by omega),Int.toNat_natCast]
def PgD (D:DataW Unit) (p:List Pg):Prop :=
 ∀ x:Int,(Lit.int .i64 x).wf=true→has D (.int .i64 x)=(pendI p x).isSome ∧ ∀ n,pendI p x=some n → ∀ z,D.atKey (.int .i64 x) z=encP n
def PgMap (w:World) (b m:Nat) (p:List Pg):Prop := ∃ D,w.ownsMap Tryd.prog 3 pageE b m D∧PgD D p
section
variable {w w':World} {b m:Nat} {p:List Pg}
theorem PgMap.lt (h:PgMap w b m p):b<w.heap.size:=by obtain ⟨D,h1,_⟩:=h;exact h1.lt
theorem PgMap.chg {S:Nat→Prop} (h:PgMap w b m p) (hc:Chg S w w') (hn : ¬S b):PgMap w' b m p:=by
 obtain ⟨D,h1,h2⟩:=h
 refine ⟨D,?_,h2⟩
 have hlt:=h1.lt
 obtain ⟨es,clock,hb,F,hs,hD⟩:=h1
 exact ⟨es,clock,(hc.block b hlt hn).trans hb,F,hs,hD⟩
theorem PgMap.made (w:World) {p:List Pg} (hp : ∀ x∈p,x.2=none):PgMap (w.alloc (.map #[] 0)) w.heap.size 0 p:=by
 refine ⟨_,World.ownsMap_made w _ _ _,fun x _=>?_⟩
 have h0:pendI p x=none:=by
  unfold pendI
  split
  · cases h:p[x.toNat]? with
    | none=>rfl
    | some y=>exact hp y (List.mem_of_getElem? h)
  · rfl
 rw [h0]
 exact ⟨rfl,fun n h=>by cases h⟩
theorem PgMap.mono (h:PgMap w b m p) {m':Nat} (hm:m≤m'):PgMap w b m' p:=by
 obtain ⟨D,h1,h2⟩:=h
 exact ⟨D,h1.mono hm,h2⟩
theorem zeroPg (w:World):(zeroValue 105).run Tryd.prog w = .ok (arrV .u8 zer) w:=by kernel_rfl
set_option maxRecDepth 100000 in
theorem PgMap.look (h:PgMap w b m p) {x:Int} (hw:(Lit.int .i64 x).wf=true) :
 (∀ n,pendI p x=some n→(Instr.lookup 77 (.map (some b)) (.int .i64 x) true).run Tryd.prog w = .ok (.tuple #[arrV .u8 n,.bool true]) w) ∧
 (pendI p x=none→(Instr.lookup 77 (.map (some b)) (.int .i64 x) true).run Tryd.prog w = .ok (.tuple #[arrV .u8 zer,.bool false]) w):=by
 obtain ⟨D,h1,h2⟩:=h
 obtain ⟨v,ps,hrun,hv⟩:=h1.look_ok intKeyed Tryd.underlying77 (zeroPg w) (pageE_mk zer_len) (keyOf_i hw)
 obtain ⟨xs,rfl,_,hy⟩:=pageE_inv hv
 obtain ⟨e1,e2⟩:=h2 x hw
 have hat:=congrArg Prod.fst hy
 simp only at hat
 refine ⟨fun n hn=>?_,fun hn=>?_⟩
 · rw [e2 n hn] at hat
   rw [e1,hn] at hrun
   rw [encP_inj hat];exact hrun
 · rw [hn] at e1
   have e1:has D (.int .i64 x)=false:=e1
   rw [atKey_of_not_has e1] at hat
   rw [e1] at hrun
   rw [encP_inj hat];exact hrun
set_option maxRecDepth 100000 in
theorem PgMap.get (h:PgMap w b m p) {x:Int} (hw:(Lit.int .i64 x).wf=true) {n:List Int} (hn:pendI p x=some n) :
 (Instr.lookup 77 (.map (some b)) (.int .i64 x) false).run Tryd.prog w = .ok (arrV .u8 n) w:=by
 obtain ⟨D,h1,h2⟩:=h
 obtain ⟨v,ps,hrun,hv⟩:=h1.lookup intKeyed Tryd.underlying77 (zeroPg w) (pageE_mk zer_len) (keyOf_i hw)
 obtain ⟨xs,rfl,_,hy⟩:=pageE_inv hv
 have hat:=congrArg Prod.fst hy
 simp only at hat
 rw [(h2 x hw).2 n hn] at hat
 rw [encP_inj hat];exact hrun
theorem pendI_modify {p:List Pg} {i:Nat} (hi:i<p.length) (f:Pg→Pg) (n:List Int) (hf : ∀ y,p[i]? = some y→(f y).2=some n) (x:Int):pendI (p.modify i f) x=if x=(i:Int) then some n else pendI p x:=by
 unfold pendI
 by_cases h0:0≤x
 · rw [if_pos h0,if_pos h0,List.getElem?_modify]
   by_cases e:x=(i:Int)
   · subst e
     rw [Int.toNat_natCast,if_pos rfl,List.getElem?_eq_getElem hi]
     simp [hf _ (List.getElem?_eq_getElem hi)]
   · rw [if_neg e]
     have : ¬i=x.toNat:=by omega
     simp only [if_neg this]
     cases p[x.toNat]? <;> rfl
 · rw [if_neg h0,if_neg h0,if_neg (by omega)]
set_option maxRecDepth 100000 in
theorem PgMap.put (h:PgMap w b m p) (hm:m<maxLen) {i:Nat} (hi:i<p.length) (hs:i≤9223372036854775807) (f:Pg→Pg) {n:List Int} (hn:n.length=128) (hf : ∀ y,p[i]? = some y→(f y).2=some n) :
 ∃ w',(Instr.mapUpdate 77 (.map (some b)) (.int .i64 (i:Int)) (arrV .u8 n)).run Tryd.prog w = .ok () w'∧PgMap w' b (m+1) (p.modify i f)∧Chg (· = b) w w':=by
 obtain ⟨D,h1,h2⟩:=h
 have hM:=h1.isMap
 have hw:=wf_nat hs
 obtain ⟨w',hrun,h3,h4⟩:=h1.store intKeyed Tryd.underlying77 hm (keyOf_i hw) (pageE_mk hn)
 refine ⟨w',hrun,⟨_,h3,fun x hx=>?_⟩,.ofGrown h4.grown⟩
 rw [pendI_modify hi f n hf]
 by_cases e:x=(i:Int)
 · subst e
   rw [if_pos rfl]
   exact ⟨has_put_same hM (intKeyed.key (keyOf_i hw)) _,fun k hk z=>by injection hk with hk;subst hk;exact atKey_put_same hM (intKeyed.key (keyOf_i hw)) _ _⟩
 · have hne:(Lit.int .i64 x) ≠ .int .i64 (i:Int):=fun e'=>e (by injection e')
   rw [if_neg e,has_put_other hne]
   exact ⟨(h2 x hx).1,fun k hk z=>by rw [atKey_put_other hne];exact (h2 x hx).2 k hk z⟩
theorem PgMap.clear (h:PgMap w b m p) (ty:TypeId) {q:List Pg} (hq : ∀ x∈q,x.2=none) :
 ∃ w',(Builtin.clear_ #[77] ty #[.map (some b)]).run Tryd.prog w = .ok (.tuple #[]) w'∧PgMap w' b m q∧Chg (· = b) w w':=by
 obtain ⟨D,h1,h2⟩:=h
 obtain ⟨es,clock,hb,F,hs,hD⟩:=h1
 refine ⟨Go.ChangeMaps.setBlock w b (.map #[] clock),?_,⟨.map [],⟨#[],clock,heap_setBlock_same hb _,⟨by simp,stamped_empty clock,by simp⟩,Nat.zero_le _,rfl⟩,fun x _=>?_⟩,.ofBlock hb _⟩
 · simp [Builtin.clear_,run_underlying Tryd.underlying77,MapKept.run_getObj_map hb,MapKept.run_setObj_map _ hb,Result.andThen,Go.ChangeMaps.setBlock]
 · have h0:pendI q x=none:=by
    unfold pendI
    split
    · cases h:q[x.toNat]? with
      | none=>rfl
      | some y=>exact hq y (List.mem_of_getElem? h)
    · rfl
   rw [h0]
   exact ⟨rfl,fun n h=>by cases h⟩
def PgRng (w:World) (b r m:Nat) (p:List Pg) (L:Nat→Bool) (cnt:Nat):Prop :=
 ∃ D left,w.ranges Tryd.prog 3 pageE b r m D left cnt∧PgD D p ∧ ∀ i:Nat,i<p.length→left (.int .i64 (i:Int))=L i
theorem PgRng.map {r cnt:Nat} {L:Nat→Bool} (h:PgRng w b r m p L cnt):PgMap w b m p:=by
 obtain ⟨D,left,h1,h2,_⟩:=h
 exact ⟨D,h1.owns,h2⟩
theorem PgRng.left_eq {r cnt:Nat} {L:Nat→Bool} (h:PgRng w b r m p L cnt):w.rangeLeft b r=cnt:=by
 obtain ⟨D,left,h1,_,_⟩:=h
 exact h1.left_eq
theorem PgRng.lt {r cnt:Nat} {L:Nat→Bool} (h:PgRng w b r m p L cnt):r<w.heap.size:=by
 obtain ⟨D,left,h1,_,_⟩:=h
 exact h1.lt
theorem PgRng.chg {r cnt:Nat} {L:Nat→Bool} {S:Nat→Prop} (h:PgRng w b r m p L cnt) (hc:Chg S w w') (hb : ¬S b) (hr : ¬S r):PgRng w' b r m p L cnt:=by
 obtain ⟨D,left,h1,h2,h3⟩:=h
 have l1:=h1.owns.lt
 have l2:=h1.lt
 obtain ⟨es,clock,since,seen,c0,k1,k2,k3,k4,k5,k6⟩:=h1
 exact ⟨D,left,⟨es,clock,since,seen,c0,(hc.block b l1 hb).trans k1,k2,k3,k4,(hc.block r l2 hr).trans k5,k6⟩,h2,h3⟩
theorem PgMap.range (h:PgMap w b m p) (hl:p.length≤9223372036854775807) :
 ∃ w' cnt,(Instr.range 77 (.map (some b))).run Tryd.prog w = .ok (.pointer (some ⟨w.heap.size,0,none⟩)) w'∧PgRng w' b w.heap.size m p (fun i=>(p[i]?.bind (·.2)).isSome) cnt∧Below w.heap.size w w'∧w'.heap.size=w.heap.size+1∧cnt≤m:=by
 obtain ⟨D,h1,h2⟩:=h
 obtain ⟨w',hrun,k1,k2,k3⟩:=h1.range intKeyed Tryd.underlying77
 refine ⟨w',_,hrun,⟨D,_,k1,h2,fun i hi=>?_⟩,⟨k2.os,k2.tape,k2.output,k2.size,fun i hi=>k2.block i hi (by simp)⟩,k3,h1.size_le⟩
 rw [(h2 i (wf_nat (by omega))).1,pendI_nat]
set_option maxRecDepth 100000 in
theorem PgRng.next {r cnt:Nat} {L:Nat→Bool} (h:PgRng w b r m p L cnt) (_hl:p.length≤9223372036854775807) (ty:TypeId) :
 (cnt=0∧(∀ i,i<p.length→L i=false)∧(Instr.next (.pointer (some ⟨r,0,none⟩)) false ty).run Tryd.prog w = .ok (.tuple #[.bool false]) w) ∨
 ∃ (i : Nat) (n : List Int) (w' : World) (cnt' : Nat), i < p.length ∧ p[i]?.bind (·.2) = some n ∧ L i = true ∧ (Instr.next (.pointer (some ⟨r, 0, none⟩)) false ty).run Tryd.prog w = .ok (.tuple #[.bool true, .int .i64 (i : Int), arrV .u8 n]) w' ∧
   PgRng w' b r m p (fun j=>L j && !decide (j=i)) cnt'∧cnt'<cnt∧Chg (· = r) w w'∧w'.heap.size=w.heap.size∧(Instr.entry (.pointer (some ⟨r,0,none⟩))).run Tryd.prog w' = .ok (.tuple #[.int .i64 (i:Int),arrV .u8 n]) w':=by
 obtain ⟨D,left,h1,h2,h3⟩:=h
 rcases h1.next intKeyed ty with ⟨a1,a2,a3⟩ | ⟨key,v,kl,y,w',cnt',b1,b2,b3,b4,b5,b6,b7,b8,b9,b10⟩
 · exact .inl ⟨a1,fun i hi=>by rw [←h3 i hi];exact a2 _,a3⟩
 · obtain ⟨x,rfl,rfl,hwf⟩:=keyOf_int_inv Tryd.underlying3 b1
   obtain ⟨xs,rfl,hxs,rfl⟩:=pageE_inv b3
   have hh:=has_true_of_atKey b4
   obtain ⟨e1,e2⟩:=h2 x hwf
   rw [hh] at e1
   cases hp:pendI p x with
   | none=>rw [hp] at e1;cases e1
   | some n =>
     obtain rfl:=encP_inj ((e2 n hp (.map [])).symm.trans (b4 _))
     have h0:0≤x:=by
      unfold pendI at hp
      split at hp
      · assumption
      · cases hp
     obtain ⟨i,rfl⟩:=Int.eq_ofNat_of_zero_le h0
     rw [pendI_nat] at hp
     have hi:i<p.length:=by
      cases hq:p[i]? with
      | none=>rw [hq] at hp;cases hp
      | some q=>exact (List.getElem?_eq_some_iff.1 hq).1
     refine .inr ⟨i,n,w',cnt',hi,hp,by rw [←h3 i hi];exact b2,b5,⟨D,_,b6,h2,fun j hj=>?_⟩,b7,.ofGrown b8,b9,b10⟩
     show (left (.int .i64 (j:Int)) && !(Lit.int .i64 (j:Int)).sameKey (.int .i64 (i:Int)))=_
     rw [h3 j hj]
     congr 2
     by_cases e:j=i
     · subst e
       rw [WideAt.sameKey_self (intKeyed.key (keyOf_i hwf))];simp
     · rw [sameKey_ne (fun e'=>e (by injection e';omega))];simp [e]
end
end
section
open Go.RowKit
theorem chg_cell (w:World) (p o:Nat) (v:Value):Chg (· = p) w (w.setCell ⟨p,o,none⟩ v):=Chg.setCell (S:=(· = p)) (Chg.refl _ _) (.inl rfl) _
structure DkIs (w:World) (p g mb cap m:Nat) (d:Dk):Prop where
 ok:DkOk d
 pos:0<d.p.length
 hcap:d.p.length≤cap∧cap≤maxLen
 kp:Bk w p #[.slice (some ⟨g,0,none⟩) d.p.length cap,.map (some mb),.bool d.off,.int .i64 d.trip] 79
 pg:Pages w g d.p
 km:PgMap w mb m d.p
 ne:p ≠ g∧g ≠ mb∧p ≠ mb
def In3 (p g mb:Nat) (k:Nat):Prop:=k=p∨k=g∨k=mb
section
variable {w w':World} {p g mb cap m:Nat} {d:Dk}
theorem DkIs.chg {S:Nat→Prop} (h:DkIs w p g mb cap m d) (hc:Chg S w w') (hn : ∀ k,In3 p g mb k → ¬S k):DkIs w' p g mb cap m d :=
 ⟨h.ok,h.pos,h.hcap,h.kp.chg hc (hn _ (.inl rfl)),h.pg.chg hc (hn _ (.inr (.inl rfl))),h.km.chg hc (hn _ (.inr (.inr rfl))),h.ne⟩
theorem DkIs.later (h:DkIs w p g mb cap m d) (hb:Below w.heap.size w w'):DkIs w' p g mb cap m d:=h.chg (.ofBelow hb (fun _=>False)) (fun _ _ e=>e)
theorem DkIs.lt (h:DkIs w p g mb cap m d):p<w.heap.size∧g<w.heap.size∧mb<w.heap.size:=⟨h.kp.lt,h.pg.lt,h.km.lt⟩
theorem DkIs.mono (h:DkIs w p g mb cap m d) {m':Nat} (hm:m≤m'):DkIs w p g mb cap m' d:=⟨h.ok,h.pos,h.hcap,h.kp,h.pg,h.km.mono hm,h.ne⟩
end
theorem is_any (w:World) (p g mb cap m:Nat) (d:Dk) (h:DkIs w p g mb cap m d) (i:Int) :
 Calls Tryd.prog 54 #[.pointer (some ⟨p,0,none⟩),.int .i64 i] w fun e w'=>e = .returned (.bool (d.is i))∧w=w':=by
 have c0:=h.kp.cell 0 rfl
 unfold Dk.is
 have hl:=h.ok.few
 clear h
 generalize d.p.length=n at *
 by_cases h0:0≤i
 · have t0:decide (0≤i)=true:=by simpa using h0
   go_enter Tryd.func54,Tryd.ntmps54
   go_wp2
   go_ret
   exact ⟨ret_bool (by simp [h0]),rfl⟩
 · have t0:decide (0≤i)=false:=by simpa using h0
   go_enter Tryd.func54,Tryd.ntmps54
   go_wp2
   go_ret
   exact ⟨ret_bool (by simp),rfl⟩
theorem dklen_any (w:World) (p g mb cap m:Nat) (d:Dk) (h:DkIs w p g mb cap m d) :
 Calls Tryd.prog 38 #[.pointer (some ⟨p,0,none⟩)] w fun e w'=>e = .returned (.int .i64 (d.p.length:Int))∧w=w':=by
 have c0:=h.kp.cell 0 rfl
 clear h
 go_enter Tryd.func38,Tryd.ntmps38
 go_wp2
 go_ret
 exact ⟨rfl,rfl⟩
theorem DkIs.put {w:World} {p g mb cap m:Nat} {d:Dk} (h:DkIs w p g mb cap m d) (d':Dk) (w':World) (hp:d'.p=d.p) (ht : -1≤d'.trip∧d'.trip≤9223372036854775807)
 (hk:Bk w' p #[.slice (some ⟨g,0,none⟩) d.p.length cap,.map (some mb),.bool d'.off,.int .i64 d'.trip] 79) (hc:Chg (· = p) w w'):DkIs w' p g mb cap m d' :=
 ⟨⟨by rw [hp]; exact h.ok.pages, ht.1, ht.2, by rw [hp]; exact h.ok.few⟩, by rw [hp]; exact h.pos, by rw [hp]; exact h.hcap, by rw [hp]; exact hk,
   by rw [hp];exact h.pg.chg hc (fun e=>h.ne.1 e.symm),by rw [hp];exact h.km.chg hc (fun e=>h.ne.2.2 e.symm),h.ne⟩
def StepPost (p g mb cap m:Nat) (w:World) (d':Dk) (n:Int) (e:Ending) (w':World):Prop:=e = .returned (.int .i64 n)∧DkIs w' p g mb cap m d'∧Chg (· = p) w w'
def errS (b:Bool):Int:=if b=true then 0 else 20
theorem step_any (w:World) (p g mb cap m:Nat) (d:Dk) (h:DkIs w p g mb cap m d) :
 Calls Tryd.prog 68 #[.pointer (some ⟨p,0,none⟩)] w (StepPost p g mb cap m w d.step.1 (errS d.step.2)):=by
 have H:=Bx.mk h
 have c2:=h.kp.cell 2 rfl
 have f2:=h.kp.frozen 2
 have c3:=h.kp.cell 3 rfl
 have f3:=h.kp.frozen 3
 have b1:=h.ok.lo
 have b2:=h.ok.hi
 have K2 : ∀ v,Bk (w.setCell ⟨p,2,none⟩ v) p #[.slice (some ⟨g,0,none⟩) d.p.length cap,.map (some mb),v,.int .i64 d.trip] 79:=fun v=>h.kp.set 2 v
 have K3 : ∀ v,Bk (w.setCell ⟨p,3,none⟩ v) p #[.slice (some ⟨g,0,none⟩) d.p.length cap,.map (some mb),.bool d.off,v] 79:=fun v=>h.kp.set 3 v
 clear h
 by_cases h0:d.trip=0
 · have ht:decide (d.trip=0)=true:=by simpa using h0
   have t0:(d.trip == 0)=true:=by simpa using h0
   have hs:d.step=({ d with off:=true },false):=by unfold Dk.step;rw [if_pos h0]
   rw [hs]
   have HK:=Bx.mk fun hk=>H.out.put { d with off:=true } (w.setCell ⟨p,2,none⟩ (.bool true)) rfl ⟨b1,b2⟩ hk (chg_cell _ _ _ _)
   have HJ:=Bx.mk (HK.out (K2 _))
   clear h0 K2 K3 H hs HK
   generalize ({ d with off:=true }:Dk)=d' at *
   generalize d.trip=T at *
   generalize d.off=O at *
   go_enter Tryd.func68,Tryd.ntmps68
   go_wp2
   go_ret
   exact ⟨rfl,HJ.out,chg_cell _ _ _ _⟩
 · have ht:decide (d.trip=0)=false:=by simpa using h0
   have t0:(d.trip == 0)=false:=by simpa using h0
   by_cases h1:0<d.trip
   · have hs:d.step=({ d with trip:=d.trip - 1 },true):=by unfold Dk.step;rw [if_neg h0,if_pos h1]
     rw [hs]
     have HK:=Bx.mk fun hk=>H.out.put { d with trip:=d.trip - 1 } (w.setCell ⟨p,3,none⟩ (.int .i64 (d.trip - 1))) rfl ⟨by show -1≤d.trip - 1;omega,by show d.trip - 1≤_;omega⟩ hk (chg_cell _ _ _ _)
     have HJ:=Bx.mk (HK.out (K3 _))
     clear h0 K2 K3 H hs HK
     generalize ({ d with trip:=d.trip - 1 }:Dk)=d' at *
     generalize d.trip=T at *
     generalize d.off=O at *
     have t1:decide (0<T)=true:=by simpa using h1
     go_enter Tryd.func68,Tryd.ntmps68
     go_wp2
     go_ret
     exact ⟨rfl,HJ.out,chg_cell _ _ _ _⟩
   · have hs:d.step=(d,true):=by unfold Dk.step;rw [if_neg h0,if_neg h1]
     rw [hs]
     clear h0 K2 K3 hs
     have t1:decide (0<d.trip)=false:=by simpa using h1
     generalize hT:d.trip=T at *
     have hT:=Bx.mk hT
     go_enter Tryd.func68,Tryd.ntmps68
     go_wp2
     go_ret
     exact ⟨rfl,H.out,Chg.refl _ _⟩
theorem row_cells (xs:List Int) (k:IntKind):(xs.map (Value.int k)).toArray.size=xs.length:=by simp
theorem pgInfo : ∀ cs:Array Value,cs.size=128→(Tryd.prog.info? 105).map (·.size)=some cs.size:=fun cs h=>by rw [h];kernel_rfl
set_option maxRecDepth 100000 in
theorem text_any (w:World) (xs:List Int) (hl:xs.length=128) :
 Calls Tryd.prog 72 #[arrV .u8 xs] w fun e w'=>e = .returned (.string (strOfNums xs))∧Below w.heap.size w w':=by
 have hsl:Sl (w.alloc (.cells (xs.map (Value.int .u8)).toArray 105)) .u8 (some ⟨w.heap.size,0,none⟩) xs:=fun i x hx=>⟨_,0,rfl,by rw [Nat.zero_add];exact cells_new _ _ _ _ _ (by rw [List.getElem?_toArray,List.getElem?_map,hx];rfl)⟩
 have hcv:=conv_str (P:=Tryd.prog) 75 5 9 Tryd.underlying75 Tryd.underlying5 Tryd.underlying9 hsl 128 128 hl.symm
 clear hl hsl
 unfold arrV
 generalize (xs.map (Value.int .u8)).toArray=cs at *
 go_enter Tryd.func72,Tryd.ntmps72
 go_wp2_with fail
 go_ret
 exact ⟨rfl,(Below.refl _ _).alloc (Nat.le_refl _) _⟩
theorem mkDk_ok (n:Nat) (h:n≤120):DkOk (mkDk n):=by
 refine ⟨fun x hx=>?_,by show (-1:Int) ≤ -1;omega,by show (-1:Int)≤_;omega,by unfold mkDk;rw [List.length_replicate];exact h⟩
 unfold mkDk at hx
 simp only [List.mem_replicate] at hx
 rw [hx.2]
 exact ⟨zer_len,byt_zer,fun n h=>by cases h⟩
def NewPost (n:Nat) (w:World) (e:Ending) (w':World):Prop :=
 ∃ p g mb,e = .returned (.tuple #[.pointer (some ⟨p,0,none⟩),.int .i64 0])∧DkIs w' p g mb n 0 (mkDk n)∧w.heap.size≤p∧w.heap.size≤g∧w.heap.size≤mb∧Below w.heap.size w w'
theorem pgAll:(Tryd.prog.info? 105).map (fun i=>(i.zero,i.size,i.bytes))=some (some (arrV .u8 zer),128,128):=by kernel_rfl
def zcells (n:Nat):Array Value:=(List.replicate (n * 128) (Value.int .u8 0)).toArray
theorem zer_get {i:Nat} {x:Int} (h:zer[i]? = some x):x=0:=by
 have:=List.mem_of_getElem? h
 unfold zer at this
 exact (List.mem_replicate.1 this).2
set_option maxRecDepth 100000 in
theorem made_zer (n:Nat):madeCells (arrV .u8 zer).cells (n * 128)=zcells n:=by
 apply Array.ext
 · simp [madeCells,zcells]
 · intro i h1 h2
   have hc:(arrV .u8 zer).cells=(zer.map (Value.int .u8)).toArray:=rfl
   have hs:((zer.map (Value.int .u8)).toArray).size=128:=by rw [row_cells,zer_len]
   have hl:i % 128<(zer.map (Value.int .u8)).toArray.size:=by rw [hs];omega
   have h3:(madeCells (arrV .u8 zer).cells (n * 128))[i]=(zer.map (Value.int .u8)).toArray[i % 128]! := by
    simp only [madeCells,Array.getElem_map,Array.getElem_range,hc,hs]
   rw [h3,getElem!_pos (zer.map (Value.int .u8)).toArray (i % 128) hl]
   have h4:(zcells n)[i]=Value.int .u8 0:=by
    have : ∀ h,((List.replicate (n * 128) (Value.int .u8 0)).toArray)[i]'h=Value.int .u8 0:=fun h=>by rw [List.getElem_toArray,List.getElem_replicate]
    exact this _
   rw [h4,List.getElem_toArray,List.getElem_map]
   have h5:zer[i % 128]? = some (zer[i % 128]'(by rw [zer_len];omega)):=List.getElem?_eq_getElem _
   rw [zer_get h5]
theorem made_pages (W:World) (n:Nat) (hn:n≤120):(Instr.makeSlice 76 (.int .i64 (n:Int)) (.int .i64 (n:Int))).run Tryd.prog W = .ok (.slice (some ⟨W.heap.size,0,none⟩) n n) (W.alloc (.cells (zcells n) 105)):=by
 obtain ⟨i0,hi0,hz0,hz1,hz2⟩:=info_parts pgAll
 have:=run_make W 76 105 i0 _ Tryd.underlying76 hi0 hz0 .i64 .i64 (n:Int) (n:Int) (by omega) (Int.le_refl _) (by rw [hz2];omega) (by omega)
 rw [hz1,Int.toNat_natCast,made_zer] at this
 exact this
theorem pages_made (w:World) (n:Nat) (t:TypeId):Pages (w.alloc (.cells (zcells n) t)) w.heap.size (List.replicate n (zer,none)):=by
 have hc : ∀ j,j<n * 128→(w.alloc (.cells (zcells n) t)).cell? ⟨w.heap.size,j,none⟩=some (.int .u8 0):=fun j hj=>cells_new _ _ _ _ _ (by unfold zcells;rw [List.getElem?_toArray,List.getElem?_replicate,if_pos hj])
 refine ⟨fun i x hx j v hv=>?_,fun j hj=>?_,by simp⟩
 · rw [List.getElem?_replicate] at hx
   split at hx
   · injection hx with hx
     subst hx
     rw [List.getElem?_map] at hv
     cases hz:zer[j]? with
     | none=>rw [hz] at hv;cases hv
     | some y =>
       rw [hz] at hv
       obtain rfl:=zer_get hz
       have hj:=(List.getElem?_eq_some_iff.1 hz).1
       rw [zer_len] at hj
       injection hv with hv
       rw [←hv]
       exact hc _ (by omega)
   · cases hx
 · rw [List.length_replicate] at hj
   rw [Nat.zero_add,hc j hj]
   exact ⟨rfl,frozen_new _ _ _ _⟩
theorem new_ok (w:World) (n:Nat) (h1:1≤n) (h2:n≤120):Calls Tryd.prog 23 #[.int .i64 (n:Int)] w (NewPost n w):=by
 have h3 : ¬(n:Int)<1:=by omega
 have h4:(n:Int)≤4096:=by omega
 have hmk:=fun W=>made_pages W n h2
 have hmm:=@run_makeMap Tryd.prog
 go_enter Tryd.func23,Tryd.ntmps23
 go_wp2
 go_ret2
 have hpg:=pages_made w n 105
 generalize hz:zcells n=Z at *
 have e1:=PgMap.made (w.alloc (.cells Z 105)) (p:=List.replicate n (zer,none)) (fun x hx=>by rw [(List.mem_replicate.1 hx).2])
 rw [show (w.alloc (.cells Z 105)).heap.size=w.heap.size+1 by simp] at e1
 have b2:=(Below.refl (w.alloc (.cells Z 105)).heap.size _).alloc (Nat.le_refl _) (.map #[] 0)
 refine ⟨w.heap.size+1+1,w.heap.size,w.heap.size+1,rfl,⟨mkDk_ok n h2,?_,?_,?_,?_,?_,by omega,by omega,by omega⟩,by omega,by omega,by omega,?_⟩
 · show 0<(List.replicate n (zer,none)).length
   rw [List.length_replicate];omega
 · show (List.replicate n (zer,none)).length≤n∧n≤maxLen
   rw [List.length_replicate];unfold maxLen;omega
 · show Bk _ _ #[.slice _ (List.replicate n (zer,none)).length n,_,_,_] _
   rw [List.length_replicate]
   exact blk_new _ _ _ (by simp)
 · exact (hpg.later b2).later ((Below.refl _ _).alloc (Nat.le_refl _) _)
 · exact e1.chg (.ofBelow ((Below.refl _ _).alloc (Nat.le_refl _) _) (fun _=>False)) (fun e=>e)
 · exact (((Below.refl _ _).alloc (Nat.le_refl _) _).alloc (by simp) _).alloc (by simp;omega) _
end
section
open Go.RowKit
set_option maxRecDepth 100000 in
theorem now_any (w:World) (p g mb cap m:Nat) (d:Dk) (h:DkIs w p g mb cap m d) (i:Nat) (x:Pg) (hx:d.p[i]? = some x) :
 Calls Tryd.prog 71 #[.pointer (some ⟨p,0,none⟩),.int .i64 (i:Int)] w fun e w'=>e = .returned (arrV .u8 x.now)∧Below w.heap.size w w':=by
 have H:=Bx.mk h
 have hi:=(List.getElem?_eq_some_iff.1 hx).1
 have hfew:=h.ok.few
 have hcap:=h.hcap.1
 have hok:=h.ok.pages x (List.mem_of_getElem? hx)
 have hpI:pendI d.p (i:Int)=x.2:=by rw [pendI_nat,hx];rfl
 have hwf:=wf_nat (i:=i) (by omega)
 have HX:=Bx.mk hx
 have HI:=Bx.mk pgInfo
 clear h hx
 go_enter Tryd.func71,Tryd.ntmps71
 go_upto_region 1 with fail
 generalize hW:World.alloc w _=W
 have kr:Bx (Bk W w.heap.size Tryd.zeroCells105 105):=by rw [←hW];exact ⟨blk_new _ _ _ rfl⟩
 have hb:Bx (Below w.heap.size w W):=by rw [←hW];exact ⟨(Below.refl _ _).alloc (Nat.le_refl _) _⟩
 clear hW
 have HD:=Bx.mk (H.out.later hb.out)
 obtain ⟨c0,c1⟩:=HD.out.kp.c2
 obtain ⟨o,nw⟩:=x
 have hlk:=HD.out.km.look hwf
 rw [hpI] at hlk
 have hZ:Bx (Tryd.zeroCells105.size=128):=⟨by kernel_rfl⟩
 cases nw with
 | some n =>
   replace hlk:=hlk.1 n rfl
   obtain ⟨l3,-⟩:=hok.2.2 n rfl
   have s1:=Bx.mk (HI.out _ ((row_cells n .u8).trans l3))
   have s2:=Bx.mk (show Tryd.zeroCells105.size=(n.map (Value.int .u8)).toArray.size by rw [row_cells,hZ.out,l3])
   have s3:=Bx.mk (one_ints .u8 n)
   clear H hpI HX hok l3 HI hZ
   show Code.wp _ _ _ _ _
   unfold arrV at hlk
   have hN:Bx (arrV .u8 (Pg.now (o,some n)) = .agg (n.map (Value.int .u8)).toArray):=⟨rfl⟩
   generalize (n.map (Value.int .u8)).toArray=N at *
   go_upto_region 2 with (refine wpList_store_whole rfl _ _ _ rfl W.heap.size rfl _ _ rfl _ (heap_alloc_new W (.cells Tryd.zeroCells105 105)) s1.out s2.out s3.out ?_)
   generalize hW:World.setRow (World.alloc W _) _ _=W2
   have kl:Bx (Bk W2 W.heap.size N 105):=by rw [←hW];exact ⟨setRow_heap _ _ _ _ _ (0,0) (heap_alloc_new _ _)⟩
   have hb2:Bx (Below W.heap.size W W2):=by rw [←hW];exact ⟨below_setRow ((Below.refl _ _).alloc (Nat.le_refl _) _) (Nat.le_refl _) _⟩
   replace kr:=Bx.mk (kr.out.later hb2.out)
   clear hW
   go_wp2_with (first
    | refine wpList_load_whole rfl _ _ rfl W.heap.size rfl _ _ kl.out _ Tryd.underlying105 rfl s1.out ?_
    | refine wpList_store_whole rfl _ _ _ rfl w.heap.size rfl _ _ rfl _ kr.out s1.out s2.out s3.out ?_)
   refine bodyPost_ret (v:=.agg N) (results_cell_row rfl _ _ w.heap.size 105 N (0,0) _ rfl (setRow_heap W2 w.heap.size _ N _ (0,0) kr.out) Tryd.underlying105 rfl s1.out) rfl ⟨by rw [hN.out],below_setRow (hb.out.trans (hb2.out.mono hb.out.size)) (Nat.le_refl _) _⟩
 | none =>
   replace hlk:=hlk.2 rfl
   have l3:=hok.1
   have s0:=Bx.mk (HI.out _ ((row_cells zer .u8).trans zer_len))
   have s9:=Bx.mk (show Tryd.zeroCells105.size=(zer.map (Value.int .u8)).toArray.size by rw [row_cells,hZ.out,zer_len])
   have s8:=Bx.mk (one_ints .u8 zer)
   have s1:=Bx.mk (HI.out _ ((row_cells o .u8).trans l3))
   have s2:=Bx.mk (show Tryd.zeroCells105.size=(o.map (Value.int .u8)).toArray.size by rw [row_cells,hZ.out,l3])
   have s3:=Bx.mk (one_ints .u8 o)
   have hr:=Bx.mk (HD.out.pg.at_ i _ HX.out)
   have hgl:=Bx.mk (HD.out.lt.2.1)
   have hi2:(i:Int)<(d.p.length:Int):=by omega
   clear H hpI HX hok l3 HI hZ
   unfold arrV at hlk
   have hN:Bx (arrV .u8 (Pg.now (o,none)) = .agg (o.map (Value.int .u8)).toArray):=⟨rfl⟩
   generalize (zer.map (Value.int .u8)).toArray=Z at *
   go_upto_region 2 with (refine wpList_store_whole rfl _ _ _ rfl W.heap.size rfl _ _ rfl _ (heap_alloc_new W (.cells Tryd.zeroCells105 105)) s0.out s9.out s8.out ?_)
   generalize hW:World.setRow (World.alloc W _) _ _=W2
   have hb2:Bx (Below W.heap.size W W2):=by rw [←hW];exact ⟨below_setRow ((Below.refl _ _).alloc (Nat.le_refl _) _) (Nat.le_refl _) _⟩
   replace kr:=Bx.mk (kr.out.later hb2.out)
   have hr2:Bx (W2.rangeAt g (i * 128) (o.map (Value.int .u8))):=⟨fun j v hv=>cell_later hb2.out (hr.out j v hv)⟩
   have hb2c:Bx (DkIs W2 p g mb cap m d):=⟨HD.out.later hb2.out⟩
   clear hW c0 c1
   have c0:=hb2c.out.kp.cell 0 rfl
   go_wp2_with (first
    | refine wpList_load_mid rfl _ _ rfl g (i * 128) rfl (o.map (Value.int .u8)) _ hr2.out Tryd.underlying105 rfl (by have:=s1.out;rwa [List.size_toArray] at this) ?_
    | refine wpList_store_whole rfl _ _ _ rfl w.heap.size rfl _ _ rfl _ kr.out s1.out s2.out s3.out ?_)
   trace_state
   refine bodyPost_ret (v:=.agg (o.map (Value.int .u8)).toArray) (results_cell_row rfl _ _ w.heap.size 105 _ (0,0) _ rfl (setRow_heap W2 w.heap.size _ _ _ (0,0) kr.out) Tryd.underlying105 rfl s1.out) rfl ⟨by rw [hN.out],below_setRow (hb.out.trans (hb2.out.mono hb.out.size)) (Nat.le_refl _) _⟩
end
end Go.Proofs.YtajhkncolbgkbaaDoor
