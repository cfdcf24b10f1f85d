/- Tw3, Tw4: joined by program, for one claim. -/
import Derived.Test.YtfcbajmjaifjlaaGreatMr
import Derived.Test.YtfcbajmjaifjlaaGreatM29
import Derived.Maps.AppendAt
import Derived.Test.YtfcbajmjaifjlaaGreatM28
set_option linter.unusedVariables false
set_option linter.unusedSimpArgs false
namespace Go.Proofs.YtfcbajmjaifjlaaGreat
section
open Go.RowKit Go.Sort Go.Maps
open Oct
def lowP (n:Nat) (p:Pt):Pt:=⟨p.x - p.x % 2 ^ (n+2),p.y - p.y % 2 ^ (n+2),p.z - p.z % 2 ^ (n+2)⟩
theorem low1 (x m:Int):x - x % m=m * (x / m):=by have:=Int.mul_ediv_add_emod x m;omega
theorem low_al (n:Nat) (p:Pt):Tr.Al n (lowP n p):=by
 refine ⟨?_,?_,?_⟩ <;> (simp only [lowP];rw [low1];exact Int.mul_emod_right _ _)
theorem low_in (n:Nat) (p:Pt):Tr.InC n (lowP n p) p:=by
 have hp:=Tr.pow_pos2 n
 refine ⟨?_,?_,?_⟩ <;> (simp only [lowP];rw [low1,Int.mul_ediv_cancel_left _ (by omega)])
theorem low_eq {n:Nat} {a p:Pt} (h:Tr.Al n a):a=lowP n p ↔ Tr.InC n a p:=by
 refine ⟨fun e=>e ▸ low_in n p,fun hi=>?_⟩
 obtain ⟨x,y,z⟩:=h
 obtain ⟨i,j,k⟩:=hi
 have e1:=Int.mul_ediv_add_emod a.x (2 ^ (n+2))
 have e2:=Int.mul_ediv_add_emod a.y (2 ^ (n+2))
 have e3:=Int.mul_ediv_add_emod a.z (2 ^ (n+2))
 unfold lowP
 rw [low1,low1,low1,i,j,k]
 cases a
 simp only at *
 congr 1 <;> omega
instance (n:Nat) (a p:Pt):Decidable (Tr.InC n a p):=by unfold Tr.InC;infer_instance
def inb (l:List Chg) (a:Pt):List Chg:=l.filter fun c=>decide (Tr.InC 0 a c.at)
theorem inb_app (l:List Chg) (c:Chg) (a:Pt):inb (l++[c]) a=inb l a++if Tr.InC 0 a c.at then [c] else []:=by
 unfold inb
 rw [List.filter_append]
 congr 1
 by_cases h:Tr.InC 0 a c.at
 · simp [h]
 · simp [h]
abbrev ccells (l:List Chg):List Value:=l.flatMap Chg.cells
def TouchM (N tm m:Nat) (T:Nat→Pt→Prop) (W:World):Prop :=
 ∃ ft,MapV 39 W tm m ft ∧ ∀ n a,n≤N→Tr.Al n a→(T n a→ft (cubeV a.x a.y a.z ((n:Int)+2))=some (.bool true))∧(¬T n a→ft (cubeV a.x a.y a.z ((n:Int)+2))=none)
def BrickM (B bm m:Nat) (Av:Nat→Prop) (l:List Chg) (W:World):Prop :=
 ∃ fb, MapV 39 W bm m fb ∧
   (∀ a,Tr.Al 0 a→(inb l a=[]→fb (cubeV a.x a.y a.z 2)=none)∧(inb l a ≠ [] → ∃ v,fb (cubeV a.x a.y a.z 2)=some v∧W.ownsRow B 96 5 v (inb l a).length (ccells (inb l a)) ∧ ∀ g,v.ownBlock=some g → ¬Av g)) ∧
   ∀ a a' v v' g,Tr.Al 0 a→Tr.Al 0 a'→fb (cubeV a.x a.y a.z 2)=some v→fb (cubeV a'.x a'.y a'.z 2)=some v'→v.ownBlock=some g→v'.ownBlock=some g→a=a'
structure WK (w0:World) (Av:Nat→Prop) (N vt vb tm bm m:Nat) (T:Nat→Pt→Prop) (l:List Chg) (W:World):Prop where
 bel:Below w0.heap.size w0 W
 kt:Bk W vt #[.map (some tm)] 160
 kb:Bk W vb #[.map (some bm)] 159
 ge:w0.heap.size≤vt∧w0.heap.size≤vb∧w0.heap.size≤tm∧w0.heap.size≤bm
 av:Av vt∧Av vb∧Av tm∧Av bm
 lt : ∀ k,Av k→k<W.heap.size
 ne:vt ≠ tm∧vt ≠ bm∧vb ≠ tm∧vb ≠ bm∧tm ≠ bm
 tmap:TouchM N tm m T W
 bmap:BrickM w0.heap.size bm m Av l W
theorem WK.later {w0 W W':World} {Av:Nat→Prop} {N vt vb tm bm m:Nat} {T:Nat→Pt→Prop} {l:List Chg} (h:WK w0 Av N vt vb tm bm m T l W) (hb:Below W.heap.size W W'):WK w0 Av N vt vb tm bm m T l W':=by
 obtain ⟨h1,h2,h3,h4,hav,hlt,h5,⟨ft,t1,t2⟩,⟨fb,b1,b2,b3⟩⟩:=h
 have hg:=grown_of_below hb
 refine ⟨h1.trans (hb.mono h1.size),h2.later hb,h3.later hb,h4,hav,fun k hk=>Nat.lt_of_lt_of_le (hlt k hk) hb.size,h5,⟨ft,t1.of_block (hb.block _ t1.lt),t2⟩,⟨fb,b1.of_block (hb.block _ b1.lt),fun a ha=>⟨(b2 a ha).1,fun hn=>?_⟩,b3⟩⟩
 obtain ⟨v,q1,q2,q3⟩:=(b2 a ha).2 hn
 exact ⟨v,q1,World.ownsRow.kept q2 hg (by cases v.ownBlock <;> simp),q3⟩
theorem WK.avoid {w0 W:World} {Av Av':Nat→Prop} {N vt vb tm bm m:Nat} {T:Nat→Pt→Prop} {l:List Chg} (h:WK w0 Av N vt vb tm bm m T l W) {W':World} (hb:Below W.heap.size W W') (h' : ∀ k,Av' k→Av k∨W.heap.size≤k) (hlt' : ∀ k,Av' k→k<W'.heap.size) (hav':Av' vt∧Av' vb∧Av' tm∧Av' bm):WK w0 Av' N vt vb tm bm m T l W':=by
 have hl:=h.later hb
 obtain ⟨h1,h2,h3,h4,hav,hlt,h5,tm,⟨fb,b1,b2,b3⟩⟩:=hl
 obtain ⟨-,-,-,-,-,-,-,-,⟨fb0,c1,c2,c3⟩⟩:=h
 refine ⟨h1,h2,h3,h4,hav',hlt',h5,tm,⟨fb0,c1.of_block (hb.block _ c1.lt),fun a ha=>⟨(c2 a ha).1,fun hn=>?_⟩,c3⟩⟩
 obtain ⟨v,q1,q2,q3⟩:=(c2 a ha).2 hn
 refine ⟨v,q1,World.ownsRow.kept q2 (grown_of_below hb) (by cases v.ownBlock <;> simp),fun g hg ha'=>?_⟩
 rcases h' g ha' with h | h
 · exact q3 g hg h
 · have:=(World.ownsRow.lt q2 g hg).2;omega
theorem below_grown {w0 W W':World} {g:Nat} (h:Below w0.heap.size w0 W) (hg:W.grownBy W' (some g)) (hge:w0.heap.size≤g):Below w0.heap.size w0 W' :=
 h.trans ⟨hg.os,hg.tape,hg.output,hg.size,fun k hk=>hg.block k (Nat.lt_of_lt_of_le hk h.size) (fun e=>by injection e with e;omega)⟩
theorem WK.touch {w0 W:World} {Av:Nat→Prop} {N vt vb tm bm m:Nat} {T:Nat→Pt→Prop} {l:List Chg} (h:WK w0 Av N vt vb tm bm m T l W) (hm:m<maxLen) (n:Nat) (p:Pt) (hwf : ∀ q∈[(lowP n p).x,(lowP n p).y,(lowP n p).z,(n:Int)+2],(Lit.int .i64 q).wf=true) :
 ∃ W',(Instr.mapUpdate 160 (.map (some tm)) (cubeV (lowP n p).x (lowP n p).y (lowP n p).z ((n:Int)+2)) (.bool true)).run Tryz.prog W = .ok () W'∧WK w0 Av N vt vb tm bm (m+1) (fun n' a=>T n' a∨(n'=n∧Tr.InC n a p)) l W'∧W'.heap.size=W.heap.size∧W.grownBy W' (some tm):=by
 obtain ⟨h1,h2,h3,h4,hav,hlt,h5,⟨ft,t1,t2⟩,⟨fb,b1,b2,b3⟩⟩:=h
 obtain ⟨kl,hkl⟩:=key_cube _ _ _ _ hwf
 obtain ⟨W',hrun,hM,hg,hs⟩:=t1.put cubeKeyed Tryz.underlying160 hm hkl (.bool true)
 refine ⟨W',hrun,⟨below_grown h1 hg h4.2.2.1,h2.grown hg h5.1,h3.grown hg h5.2.2.1,h4,hav,fun k hk=>Nat.lt_of_lt_of_le (hlt k hk) hg.size,h5,⟨_,hM,fun n' a hn ha=>?_⟩,⟨fb,(b1.kept hg (by intro e;injection e with e;exact h5.2.2.2.2 e.symm)).mono (by omega),fun a ha=>⟨(b2 a ha).1,fun hn=>?_⟩,b3⟩⟩,hs,hg⟩
 · by_cases e:n'=n∧Tr.InC n a p
   · obtain ⟨rfl,e⟩:=e
     have ea:=(low_eq ha).2 e
     rw [ea,putV_same]
     exact ⟨fun _=>rfl,fun hne=>absurd (.inr ⟨rfl,ea ▸ e⟩) hne⟩
   · rw [putV_other]
     · obtain ⟨q1,q2⟩:=t2 n' a hn ha
       exact ⟨fun ht=>q1 (ht.resolve_right e),fun ht=>q2 (fun h=>ht (.inl h))⟩
     · intro ek
       obtain ⟨x,y,z,hl⟩:=cubeV_inj ek
       obtain rfl:n'=n:=by omega
       refine e ⟨rfl,(low_eq ha).1 ?_⟩
       cases a;cases hq:lowP n' p
       rw [hq] at x y z
       simp only at x y z
       rw [x,y,z]
 · obtain ⟨v,q1,q2,q3⟩:=(b2 a ha).2 hn
   exact ⟨v,q1,World.ownsRow.kept q2 hg (by
    cases hv:v.ownBlock with
    | none=>exact .inl rfl
    | some g=>exact .inr (fun e=>q3 g hv (by injection e with e;exact e ▸ hav.2.2.1))),q3⟩
structure Mid (w0 W W2:World) (Av:Nat→Prop) (N vt vb tm bm m:Nat) (T:Nat→Pt→Prop) (l:List Chg) (c:Chg) (v0:Value) (st:Nat):Prop where
 own:W2.ownsRow w0.heap.size 96 5 v0 (inb l (lowP 0 c.at)).length (ccells (inb l (lowP 0 c.at)))
 nav : ∀ g,v0.ownBlock=some g → ¬Av g
 bel:Below w0.heap.size w0 W2
 size:W2.heap.size=W.heap.size
 grown:W.grownBy W2 (some bm)
 push : ∀ W3 v',W2.grownBy W3 v0.ownBlock→W3.ownsRow w0.heap.size 96 5 v' ((inb l (lowP 0 c.at)).length+1) (ccells (inb l (lowP 0 c.at))++c.cells)→(v'.ownBlock=v0.ownBlock∨v'.ownBlock=some W2.heap.size) →
  ∃ W4,(Instr.entryStore 159 (.map (some bm)) (.int .i64 st) v').run Tryz.prog W3 = .ok () W4∧WK w0 Av N vt vb tm bm (m+1) T (l++[c]) W4∧W4.heap.size=W3.heap.size∧(∀ g,g<W.heap.size→g ≠ bm→v0.ownBlock ≠ some g→W4.heap[g]? = W.heap[g]?)
theorem WK.entry {w0 W:World} {Av:Nat→Prop} {N vt vb tm bm m:Nat} {T:Nat→Pt→Prop} {l:List Chg} (h:WK w0 Av N vt vb tm bm m T l W) (hm:m<maxLen) (c:Chg) (hwf : ∀ q∈[(lowP 0 c.at).x,(lowP 0 c.at).y,(lowP 0 c.at).z,2],(Lit.int .i64 q).wf=true) :
 ∃ v0 st W2,(Instr.mapEntry 159 (.map (some bm)) (cubeV (lowP 0 c.at).x (lowP 0 c.at).y (lowP 0 c.at).z 2)).run Tryz.prog W = .ok (.tuple #[v0,.int .i64 (st:Nat)]) W2∧Mid w0 W W2 Av N vt vb tm bm m T l c v0 st:=by
 obtain ⟨h1,h2,h3,h4,hav,hlt,h5,⟨ft,t1,t2⟩,⟨fb,b1,b2,b3⟩⟩:=h
 obtain ⟨kl,hkl⟩:=key_cube _ _ _ _ hwf
 obtain ⟨st,W2,hrun,hg,hs,hst⟩:=b1.entry cubeLaw Tryz.underlying159 zeroC hm hkl
 have ha0:=low_al 0 c.at
 have hi0:=low_in 0 c.at
 -- the row that stands there
 have hrow:W.ownsRow w0.heap.size 96 5 ((fb (cubeV (lowP 0 c.at).x (lowP 0 c.at).y (lowP 0 c.at).z 2)).getD (.slice none 0 0)) (inb l (lowP 0 c.at)).length (ccells (inb l (lowP 0 c.at)))∧(∀ g,((fb (cubeV (lowP 0 c.at).x (lowP 0 c.at).y (lowP 0 c.at).z 2)).getD (.slice none 0 0)).ownBlock=some g → ¬Av g) ∧
  ∀ g,((fb (cubeV (lowP 0 c.at).x (lowP 0 c.at).y (lowP 0 c.at).z 2)).getD (.slice none 0 0)).ownBlock=some g → ∀ a v,Tr.Al 0 a→fb (cubeV a.x a.y a.z 2)=some v→v.ownBlock=some g→a=lowP 0 c.at:=by
  obtain ⟨r1,r2⟩:=b2 _ ha0
  by_cases hn:inb l (lowP 0 c.at)=[]
  · rw [r1 hn,hn]
    exact ⟨World.ownsRow_nil _ _ _ _,(fun g hg=>by cases hg),(fun g hg=>by cases hg)⟩
  · obtain ⟨v,q1,q2,q3⟩:=r2 hn
    rw [q1]
    exact ⟨q2,q3,fun g hg a v' ha hv hg'=>b3 a _ v' v g ha ha0 hv q1 hg' hg⟩
 obtain ⟨hr1,hr2,hr3⟩:=hrow
 generalize (fb (cubeV (lowP 0 c.at).x (lowP 0 c.at).y (lowP 0 c.at).z 2)).getD (.slice none 0 0)=v0 at *
 refine ⟨v0,st,W2,hrun,⟨?_,hr2,below_grown h1 hg h4.2.2.2,hs,hg,fun W3 v' hg3 hrow hat=>?_⟩⟩
 · exact World.ownsRow.kept hr1 hg (by
    cases hv:v0.ownBlock with
    | none=>exact .inl rfl
    | some g=>exact .inr (fun e=>hr2 g hv (by injection e with e;exact e ▸ hav.2.2.2)))
 · have hbm2:bm<W2.heap.size:=by rw [hs];exact b1.lt
   have hbmne:some bm ≠ v0.ownBlock:=fun e=>hr2 bm e.symm hav.2.2.2
   obtain ⟨W4,hrun4,hM4,hg4,hs4⟩:=hst W3 v' (hg3.block bm hbm2 hbmne)
   have hnb : ∀ g,v'.ownBlock=some g → ¬Av g:=by
    intro g hgv
    rcases hat with e | e
    · exact hr2 g (e.symm.trans hgv)
    · rw [e] at hgv
      obtain rfl:=Option.some.inj hgv
      intro h;have:=hlt _ h;omega
   have hold : ∀ g,g<W.heap.size→g ≠ bm→v0.ownBlock ≠ some g→W4.heap[g]? = W.heap[g]? := fun g hlt hne hv =>
    ((hg4.block g (Nat.lt_of_lt_of_le hlt (hs ▸ hg3.size)) (fun e=>hne (by injection e))).trans (hg3.block g (by omega) (fun e=>hv e.symm))).trans (hg.block g hlt (fun e=>hne (by injection e)))
   refine ⟨W4,hrun4,⟨?_,?_,?_,h4,hav,fun k hk=>Nat.lt_of_lt_of_le (hlt k hk) (Nat.le_trans hg.size (Nat.le_trans hg3.size hg4.size)),h5,?_,?_⟩,hs4,hold⟩
   · refine h1.trans ⟨hg4.os.trans (hg3.os.trans hg.os),hg4.tape.trans (hg3.tape.trans hg.tape),hg4.output.trans (hg3.output.trans hg.output),Nat.le_trans hg.size (Nat.le_trans hg3.size hg4.size),fun k hk=>hold k (Nat.lt_of_lt_of_le hk h1.size) (by omega) (fun e=>by have:=(World.ownsRow.lt hr1 k e).1;omega)⟩
   · exact (hold vt h2.lt h5.2.1 (fun e=>hr2 vt e hav.1)).trans h2
   · exact (hold vb h3.lt h5.2.2.2.1 (fun e=>hr2 vb e hav.2.1)).trans h3
   · exact ⟨ft,(t1.of_block (hold tm t1.lt h5.2.2.2.2 (fun e=>hr2 tm e hav.2.2.1))).mono (by omega),t2⟩
   · refine ⟨_,hM4,fun a ha=>?_,fun a a' v1 v2 g ha ha' e1 e2 g1 g2=>?_⟩
     · rw [inb_app]
       by_cases e:a=lowP 0 c.at
       · subst e
         rw [if_pos hi0,putV_same]
         refine ⟨fun h=>by simp at h,fun _=>⟨v',rfl,?_,hnb⟩⟩
         rw [List.length_append,List.length_singleton,show ccells (inb l (lowP 0 c.at)++[c])=ccells (inb l (lowP 0 c.at))++c.cells by unfold ccells;rw [List.flatMap_append];simp]
         exact World.ownsRow.kept hrow hg4 (by
          cases hv:v'.ownBlock with
          | none=>exact .inl rfl
          | some g=>exact .inr (fun e=>hnb g hv (by injection e with e;exact e ▸ hav.2.2.2)))
       · rw [if_neg (fun hi=>e ((low_eq ha).2 hi)),List.append_nil,putV_other]
         · obtain ⟨r1,r2⟩:=b2 a ha
           refine ⟨r1,fun hn=>?_⟩
           obtain ⟨v,q1,q2,q3⟩:=r2 hn
           refine ⟨v,q1,?_,q3⟩
           refine ownsRow_same q2 fun g hgv=>hold g (World.ownsRow.lt q2 g hgv).2 (fun e0=>q3 g hgv (e0 ▸ hav.2.2.2)) (fun e0=>e (hr3 g e0 a v ha q1 hgv))
         · intro ek
           obtain ⟨x,y,z,-⟩:=cubeV_inj ek
           apply e
           cases a;cases hq:lowP 0 c.at
           rw [hq] at x y z
           simp only at x y z
           rw [x,y,z]
     · have key : ∀ a1 a2 u1 u2,Tr.Al 0 a1→Tr.Al 0 a2→putV fb (cubeV (lowP 0 c.at).x (lowP 0 c.at).y (lowP 0 c.at).z 2) v' (cubeV a1.x a1.y a1.z 2)=some u1→putV fb (cubeV (lowP 0 c.at).x (lowP 0 c.at).y (lowP 0 c.at).z 2) v' (cubeV a2.x a2.y a2.z 2)=some u2→u1.ownBlock=some g→u2.ownBlock=some g→a1=lowP 0 c.at→a2=lowP 0 c.at:=by
        intro a1 a2 u1 u2 ha1 ha2 e1 e2 g1 g2 h
        subst h
        refine Classical.byContradiction fun hne=>?_
        rw [putV_same] at e1
        obtain rfl:=Option.some.inj e1
        rw [putV_other fb v' (fun ek=>hne (by
         obtain ⟨x,y,z,-⟩:=cubeV_inj ek
         cases a2;cases hq:lowP 0 c.at
         rw [hq] at x y z
         simp only at x y z
         rw [x,y,z]))] at e2
        have hin:inb l a2 ≠ []:=fun h0=>by rw [(b2 a2 ha2).1 h0] at e2;cases e2
        obtain ⟨v,q1,q2,q3⟩:=(b2 a2 ha2).2 hin
        rw [q1] at e2
        obtain rfl:=Option.some.inj e2
        rcases hat with e | e
        · exact hne (hr3 g (e.symm.trans g1) a2 _ ha2 q1 g2)
        · rw [e] at g1
          obtain rfl:=Option.some.inj g1
          have:=(World.ownsRow.lt q2 _ g2).2
          omega
       by_cases h1':a=lowP 0 c.at
       · exact h1'.trans (key a a' v1 v2 ha ha' e1 e2 g1 g2 h1').symm
       · by_cases h2':a'=lowP 0 c.at
         · exact (key a' a v2 v1 ha' ha e2 e1 g2 g1 h2').trans h2'.symm
         · have ne : ∀ q,Tr.Al 0 q→q ≠ lowP 0 c.at→cubeV q.x q.y q.z 2 ≠ cubeV (lowP 0 c.at).x (lowP 0 c.at).y (lowP 0 c.at).z 2:=fun q _ hne ek=>hne (by
            obtain ⟨x,y,z,-⟩:=cubeV_inj ek
            cases q;cases hq:lowP 0 c.at
            rw [hq] at x y z
            simp only at x y z
            rw [x,y,z])
           rw [putV_other fb v' (ne a ha h1')] at e1
           rw [putV_other fb v' (ne a' ha' h2')] at e2
           exact b3 a a' v1 v2 g ha ha' e1 e2 g1 g2
end
section
open Go.RowKit Go.Sort Go.Maps
open Oct
theorem WK.mono {w0 W:World} {Av:Nat→Prop} {N vt vb tm bm m m':Nat} {T T':Nat→Pt→Prop} {l:List Chg} (h:WK w0 Av N vt vb tm bm m T l W) (hm:m≤m') (hT : ∀ n a,n≤N→(T n a ↔ T' n a)):WK w0 Av N vt vb tm bm m' T' l W:=by
 obtain ⟨h1,h2,h3,h4,hav,hlt,h5,⟨ft,t1,t2⟩,⟨fb,b1,b2⟩⟩:=h
 exact ⟨h1,h2,h3,h4,hav,hlt,h5,⟨ft,t1.mono hm,fun n a hn ha=>⟨fun h=>(t2 n a hn ha).1 ((hT n a hn).2 h),fun h=>(t2 n a hn ha).2 (fun h'=>h ((hT n a hn).1 h'))⟩⟩,⟨fb,b1.mono hm,b2⟩⟩
def okChg (N:Nat) (c:Chg):Prop:=inB c.at (wholeB N)=true∧0≤c.n∧c.n≤255
def touT (l:List Chg) (n:Nat) (a:Pt):Prop := ∃ c∈l,Tr.InC n a c.at
def touL (l:List Chg) (c:Chg) (lv:Nat) (n:Nat) (a:Pt):Prop:=touT l n a∨(n+2<lv∧Tr.InC n a c.at)
theorem touL_start (l:List Chg) (c:Chg) (n:Nat) (a:Pt):touT l n a ↔ touL l c 2 n a:=⟨.inl,fun h=>h.resolve_right (fun h=>by omega)⟩
theorem touL_step (l:List Chg) (c:Chg) (i n:Nat) (a:Pt):(touL l c (i+2) n a∨(n=i∧Tr.InC i a c.at)) ↔ touL l c (i+2+1) n a:=by
 unfold touL
 constructor
 · rintro ((h | ⟨h,h'⟩) | ⟨rfl,h⟩)
   · exact .inl h
   · exact .inr ⟨by omega,h'⟩
   · exact .inr ⟨by omega,h⟩
 · rintro (h | ⟨h,h'⟩)
   · exact .inl (.inl h)
   · by_cases e:n=i
     · exact .inr ⟨e,e ▸ h'⟩
     · exact .inl (.inr ⟨by omega,h'⟩)
theorem touL_end (l:List Chg) (c:Chg) (N n:Nat) (hn:n≤N) (a:Pt):touL l c (N+3) n a ↔ touT (l++[c]) n a:=by
 unfold touL touT
 constructor
 · rintro (⟨c',h,h'⟩ | ⟨-,h⟩)
   · exact ⟨c',by simp [h],h'⟩
   · exact ⟨c,by simp,h⟩
 · rintro ⟨c',h,h'⟩
   rcases List.mem_append.1 h with h | h
   · exact .inl ⟨c',h,h'⟩
   · rw [List.mem_singleton.1 h] at h'
     exact .inr ⟨by omega,h'⟩
theorem take_snoc' {cs:List Chg} {j:Nat} {c:Chg} (h:cs[j]? = some c):cs.take (j+1)=cs.take j++[c]:=by
 obtain ⟨hl,rfl⟩:=List.getElem?_eq_some_iff.1 h
 exact List.take_succ_eq_append_getElem hl
abbrev Four (n:Nat):Nat→Prop:=fun k=>k=n∨k=n+1∨k=n+1+1∨k=n+1+1+1
theorem WK.made (w:World) (N:Nat) {W:World} (hW:World.alloc (World.alloc (World.alloc (World.alloc w (.map #[] 0)) (.cells #[.map (some w.heap.size)] 159)) (.map #[] 0)) (.cells #[.map (some (w.heap.size+1+1))] 160)=W) :
 WK w (Four w.heap.size) N (w.heap.size+1+1+1) (w.heap.size+1) (w.heap.size+1+1) w.heap.size 0 (touT []) [] W:=by
 subst hW
 have h0:=MapV.made 39 w
 generalize hW1:World.alloc w (.map #[] 0)=W1 at *
 have s1:W1.heap.size=w.heap.size+1:=by rw [←hW1];simp
 have b1:=bl1 hW1
 generalize hW2:World.alloc W1 _=W2 at *
 have s2:W2.heap.size=w.heap.size+1+1:=by rw [←hW2];simp;omega
 have b2:=bl1 hW2
 have k2:Bk W2 (w.heap.size+1) #[.map (some w.heap.size)] 159:=by rw [←hW2,←s1];exact Bk.new _ _ _
 have h3:=MapV.made 39 W2
 generalize hW3:World.alloc W2 (.map #[] 0)=W3 at *
 have s3:W3.heap.size=w.heap.size+1+1+1:=by rw [←hW3];simp;omega
 have b3:=bl1 hW3
 generalize hW4:World.alloc W3 _=W4
 have b4:=bl1 hW4
 have k4:Bk W4 (w.heap.size+1+1+1) #[.map (some (w.heap.size+1+1))] 160:=by rw [←hW4,←s3];exact Bk.new _ _ _
 rw [s2] at h3
 refine ⟨((b1.trans (b2.mono b1.size)).trans (b3.mono (by omega))).trans (b4.mono (by omega)),k4,(k2.later b3).later b4,⟨by omega,by omega,by omega,by omega⟩,⟨.inr (.inr (.inr rfl)),.inr (.inl rfl),.inr (.inr (.inl rfl)),.inl rfl⟩,(fun k hk=>by have:=b4.size;rcases hk with rfl | rfl | rfl | rfl <;> (first | exact k4.lt | omega)),⟨by omega,by omega,by omega,by omega,by omega⟩,⟨_,h3.of_block (b4.block _ (by omega)),fun n a _ _=>⟨fun ⟨c,h,_⟩=>by simp at h,fun _=>rfl⟩⟩,
  ⟨_,((h0.of_block (b2.block _ (by omega))).of_block (b3.block _ (by omega))).of_block (b4.block _ (by omega)),fun a _=>⟨fun _=>rfl,fun h=>absurd rfl h⟩,fun a a' v v' g _ _ h=>by cases h⟩⟩
structure WSays (V:Prop) (G:Ending→World→Prop) (w:World) (e:Ending) (w':World):Prop where
 ok:V→G e w'
 bad : ¬V→e=ret2 0 1∧Below w.heap.size w w'
attribute [local go_sem ↓] Go.wp_at_zero Go.wp_at_succ
set_option maxRecDepth 100000 in
set_option maxHeartbeats 4000000 in
theorem twrite_walk {N:Nat} (hN:N≤12) (sb:Nat) (id:Int) (ha:Option Addr) (hcp:Nat) (cs:List Chg) (hC:cs.length≤4194304) (hcap:cs.length≤hcp) (w:World) (hcs:SlC w ha cs) (G:Ending→World→Prop)
 (hch:Bx (∀ Av vt vb tm bm m W,(∀ c∈cs,okChg N c)→WK w Av N vt vb tm bm m (touT cs) cs W→Calls Tryz.prog 112 #[.pointer (some ⟨sb,0,none⟩),id,.int .i64 ((N:Int)+2),.agg #[.func (.func 117) #[] #[.pointer (some ⟨vt,0,none⟩)],.func (.func 118) #[] #[.pointer (some ⟨vb,0,none⟩)]]] W fun e w'=>G e w' ∧ ∃ i r,e=ret2 i r)) :
 Calls Tryz.prog 52 #[.pointer (some ⟨sb,0,none⟩),id,.int .i64 ((N:Int)+2),.slice ha cs.length hcp] w (WSays (∀ c∈cs,okChg N c) G w):=by
 have Hcs:=Bx.mk hcs
 have hpm:=pow_le (show N+2≤14 by omega)
 obtain ⟨M,hM⟩ : ∃ M:Int,M=2 ^ (N+2):=⟨_,rfl⟩
 rw [←hM] at hpm
 have Hwh:=Bx.mk fun W=>whole_cube_any ((N:Int)+2) W
 have Hbox:=Bx.mk fun W=>box_any (N+2) (by omega) 0 0 0 M hM (by omega) (by omega) (by omega) W
 rw [Int.zero_add,show (((N+2:Nat)):Int)=(N:Int)+2 by omega] at Hbox
 have HM:=Bx.mk hM
 have HN:=Bx.mk hN
 have Hin:=Bx.mk fun px py pz W=>in_any px py pz 0 0 0 M M M W
 clear hcs hM hpm
 have hmm:=@run_makeMap Tryz.prog
 go_enter Tryz.func52,Tryz.ntmps52
 go_wp2_with fail
 generalize hW:World.alloc (World.alloc (World.alloc (World.alloc w _) _) _) _=W
 clear hmm
 have HI:=Bx.mk (WK.made w N hW)
 clear hW
 go_loopw [21] (fun v21 wr => ∃ j:Nat,j≤cs.length∧v21 = .int .i64 j∧Bx (WK w (Four w.heap.size) N (w.heap.size+1+1+1) (w.heap.size+1) (w.heap.size+1+1) w.heap.size (30 * j) (touT (cs.take j)) (cs.take j) wr ∧ ∀ c∈cs.take j,okChg N c)) (fun i _=>cs.length - (intOf i).toNat)
 case atStart=>exact ⟨0,Nat.zero_le _,rfl,⟨HI.out,by simp⟩⟩
 case round =>
  clear HI
  obtain ⟨j,hj,rfl,hI⟩:=hrel
  by_cases hlt:j<cs.length
  · obtain ⟨⟨px,py,pz,po,pn⟩,hed⟩ : ∃ ed,cs[j]? = some ed:=⟨_,List.getElem?_eq_getElem hlt⟩
    have Hed:=Bx.mk hed
    obtain ⟨bk,off,rfl,c0,c1,c2,c3,c4⟩:=(Hcs.out.of_block (fun b hb hl=>hI.out.1.bel.block b hl):SlC wr ha cs) j _ hed
    dsimp only at c0 c1 c2 c3 c4
    have t0:decide ((j:Int)<(cs.length:Int))=true:=by simp;omega
    have b1:(0:Int)≤(j:Int):=by omega
    have b2:(j:Int)<(cs.length:Int):=by omega
    clear hed
    go_wp2_with fail
    generalize hW:World.alloc wr _=W
    have hb:=bl1 hW
    have kx:Bk W wr.heap.size #[px,py,pz,po,pn] 96:=bk0 hW rfl
    clear hW c0 c1 c2 c3 c4 b1 b2 t0
    have HK:=Bx.mk (hI.out.1.avoid (Av':=fun k=>Four w.heap.size k∨k=wr.heap.size) hb (fun k hk=>hk.imp (fun h=>h) (fun h=>Nat.le_of_eq h.symm)) (fun k hk=>by
     rcases hk with hk | rfl
     · exact Nat.lt_of_lt_of_le (hI.out.1.lt k hk) hb.size
     · exact kx.lt) ⟨.inl (.inr (.inr (.inr rfl))),.inl (.inr (.inl rfl)),.inl (.inr (.inr (.inl rfl))),.inl (.inl rfl)⟩)
    have HV:=Bx.mk hI.out.2
    have hxb:=hI.out.1.kt.lt
    clear hI hb
    generalize wr.heap.size=xb at *
    by_cases h1:inB ⟨px,py,pz⟩ (wholeB N)=true
    · have Hi:=Bx.mk fun W=>Hin.out px py pz W
      rw [show inB ⟨px,py,pz⟩ ⟨⟨0,0,0⟩,⟨M,M,M⟩⟩=true by rw [HM.out];exact h1] at Hi
      have Hc:=Bx.mk fun W=>isCell10_any pn W
      have H1:=Bx.mk h1
      clear h1
      by_cases h2:0≤pn∧pn≤255
      · rw [show decide (0≤pn∧pn≤255)=true by simpa using h2] at Hc
        have HVc:Bx (okChg N ⟨px,py,pz,po,pn⟩):=⟨⟨H1.out,h2⟩⟩
        clear h2
        obtain ⟨cx0,cx1,cx2⟩:=kx.r3
        have cx4 : ∀ dk osk,(grow (redrawn W dk) osk).cell? ⟨xb,4,none⟩=some (.int .i64 pn):=cell_regrown (kx.cell 4 rfl)
        have q0:=Bx.mk fun dk osk=>Calls.regrown_of (Hwh.out (grow (redrawn W dk) osk))
        have q1:=Bx.mk fun dk osk=>Calls.regrown_of (Hbox.out (grow (redrawn W dk) osk))
        have q2:=Bx.mk fun dk osk=>Calls.regrown_of (Hi.out (grow (redrawn W dk) osk))
        have q3:=Bx.mk fun dk osk=>Calls.regrown_of ((Hc.out (grow (redrawn W dk) osk)).mono fun e w' h=>(⟨h.1,by rw [←h.2];exact Below.refl _ _⟩:e=_∧Below (grow (redrawn W dk) osk).heap.size (grow (redrawn W dk) osk) w'))
        refine wp_region_quiet_below (by kernel_rfl) (by kernel_rfl) ?_
        repeat (first | go_big_quiet_step ((first | with_reducible exact q0.out _ _ | with_reducible exact q1.out _ _ | with_reducible exact q2.out _ _ | with_reducible exact q3.out _ _)) | quiet_step (first | with_reducible exact q0.out _ _ | with_reducible exact q1.out _ _ | with_reducible exact q2.out _ _ | with_reducible exact q3.out _ _))
        refine wpQuiet_nil ?_
        rintro _ ⟨⟨dq,osq⟩,rfl⟩
        have hb:=below_regrown W dq osq
        clear cx0 cx1 cx2 cx4 q0 q1 q2 q3
        replace kx:=kx.later hb
        replace HK:=Bx.mk (HK.out.later hb)
        clear hb
        generalize grow (redrawn W dq) osq=W1 at *
        --INNER
        have HI:Bx (WK w (fun k=>Four w.heap.size k∨k=xb) N (w.heap.size+1+1+1) (w.heap.size+1) (w.heap.size+1+1) w.heap.size (30 * j+2 * 2) (touL (cs.take j) ⟨px,py,pz,po,pn⟩ 2) (if 2=2 then cs.take j else cs.take (j+1)) W1∧Bk W1 xb #[px,py,pz,po,pn] 96):=⟨⟨by rw [if_pos rfl];exact HK.out.mono (by omega) (fun n a _=>touL_start _ _ n a),kx⟩⟩
        clear HK kx
        go_wp2_with fail
        go_loopw [14] (fun v14 wr => ∃ lv:Nat,2≤lv∧lv≤N+3∧v14 = .int .i64 lv∧Bx (WK w (fun k=>Four w.heap.size k∨k=xb) N (w.heap.size+1+1+1) (w.heap.size+1) (w.heap.size+1+1) w.heap.size (30 * j+2 * lv) (touL (cs.take j) ⟨px,py,pz,po,pn⟩ lv) (if lv=2 then cs.take j else cs.take (j+1)) wr∧Bk wr xb #[px,py,pz,po,pn] 96)) (fun v _=>N+3 - (intOf v).toNat)
        case atStart=>exact ⟨2,by omega,by omega,rfl,HI⟩
        case round =>
         clear HI
         obtain ⟨lv,h2,h3,rfl,hL⟩:=hrel
         by_cases hle:lv≤N+2
         · have hib:=inB_iff.1 HVc.out.1
           have hpw:=pow_le (show N+2≤14 by have:=HN.out;omega)
           obtain ⟨i,hi⟩ : ∃ i,lv=i+2:=⟨lv - 2,by omega⟩
           obtain ⟨Ml,hMl⟩ : ∃ Ml:Int,Ml=2 ^ lv:=⟨_,rfl⟩
           have hp:IntKind.i64.wrap ((2:Int) ^ lv)=Ml:=by rw [hMl];exact pow_wrap (by have:=HN.out;omega)
           have hml:4≤Ml∧Ml≤16384:=by
            have h1:=pow_le (show lv≤14 by have:=HN.out;omega)
            have h2:=pow_le (show i≤14 by have:=HN.out;omega)
            have h3:(2:Int) ^ (i+2)=2 ^ i * 4:=Int.pow_add 2 i 2
            rw [hMl]
            refine ⟨?_,h1.2⟩
            rw [hi,h3];omega
           have hbd:(0≤px∧px≤16384)∧(0≤py∧py≤16384)∧(0≤pz∧pz≤16384):=by
            have e:(wholeB N).hi=⟨2 ^ (N+2),2 ^ (N+2),2 ^ (N+2)⟩:=rfl
            have e2:(wholeB N).lo=⟨0,0,0⟩:=rfl
            rw [e,e2] at hib
            simp only at hib
            omega
           obtain ⟨⟨lx,ly,lz⟩,hq⟩ : ∃ q,q=lowP i ⟨px,py,pz⟩:=⟨_,rfl⟩
           have low : ∀ x:Int,0≤x→x≤16384→0≤x - x % Ml∧x - x % Ml≤16384∧bits .andNot .i64 x (Ml - 1)=x - x % Ml:=by
            intro x h0 h1
            have e1:=low1 x Ml
            have e2:=Int.mul_nonneg (show 0≤Ml by omega) (Int.ediv_nonneg h0 (show 0≤Ml by omega))
            have e3:=Int.emod_nonneg x (show Ml ≠ 0 by omega)
            exact ⟨by omega,by omega,by rw [hMl];exact i64_andNot x lv h0 (by omega) (by have:=HN.out;omega)⟩
           have ex:px - px % Ml=lx∧py - py % Ml=ly∧pz - pz % Ml=lz:=by
            unfold lowP at hq
            rw [←hi,←hMl] at hq
            injection hq with q1 q2 q3
            exact ⟨q1.symm,q2.symm,q3.symm⟩
           obtain ⟨lx0,lx1,hx⟩:=low px hbd.1.1 hbd.1.2
           obtain ⟨ly0,ly1,hy⟩:=low py hbd.2.1.1 hbd.2.1.2
           obtain ⟨lz0,lz1,hz⟩:=low pz hbd.2.2.1 hbd.2.2.2
           rw [ex.1] at lx0 lx1 hx
           rw [ex.2.1] at ly0 ly1 hy
           rw [ex.2.2] at lz0 lz1 hz
           have Hq:=Bx.mk hq
           have Hlv:=Bx.mk hi
           have t1:decide ((lv:Int)≤(N:Int)+2)=true:=by simp;omega
           obtain ⟨c0,c1,c2⟩:=hL.out.2.c3
           clear low ex hq hi hMl hib hpw hbd
           go_upto_region 13 with fail
           generalize hW:World.alloc wr _=W
           have hb:=bl1 hW
           have kc:Bk W wr.heap.size #[lx,ly,lz,(lv:Int)] 39:=bk0 hW rfl
           clear hW c0 c1 c2 t1 hp hx hy hz
           have hcl : ∀ q∈[lx,ly,lz,(lv:Int)],0≤q∧q≤16384:=by
            intro q hq
            simp only [List.mem_cons,List.not_mem_nil,or_false] at hq
            have:=HN.out
            rcases hq with rfl | rfl | rfl | rfl <;> omega
           have hcube:wr.heap.size ≠ w.heap.size+1+1:=by have:=hL.out.1.kt.lt;omega
           have htou : ∃ W',(Instr.mapUpdate 160 (.map (some (w.heap.size+1+1))) (cubeV lx ly lz (lv:Int)) (.bool true)).run Tryz.prog W = .ok () W'∧WK w (fun k=>Four w.heap.size k∨k=xb) N (w.heap.size+1+1+1) (w.heap.size+1) (w.heap.size+1+1) w.heap.size (30 * j+2 * lv+1) (touL (cs.take j) ⟨px,py,pz,po,pn⟩ (lv+1)) (if lv=2 then cs.take j else cs.take (j+1)) W'∧W'.heap.size=W.heap.size∧W.grownBy W' (some (w.heap.size+1+1)):=by
            have h:=(hL.out.1.later hb).touch (by have:=HN.out;simp only [maxLen];omega) i ⟨px,py,pz⟩
            rw [←Hq.out,show ((i:Int)+2)=(lv:Int) by rw [Hlv.out];omega] at h
            obtain ⟨W',g1,g2,g3,g4⟩:=h (fun q hq=>wf_small q (hcl q hq))
            refine ⟨W',g1,g2.mono (Nat.le_refl _) (fun n a _=>?_),g3,g4⟩
            rw [Hlv.out];exact touL_step _ ⟨px,py,pz,po,pn⟩ i n a
           obtain ⟨W2,hrun,hwk,hsz,hgr⟩:=htou
           have kx:=(hL.out.2.later hb).grown hgr (by omega)
           have kc2:=kc.grown hgr hcube
           have Kc2:=Bx.mk kc2
           have t0:=(hL.out.1.later hb).kt.cell 0 rfl
           obtain ⟨d0,d1,d2,d3⟩:=kc.c4
           have HWK:=Bx.mk hwk
           have Kx:=Bx.mk kx
           have hcbs:Bx (wr.heap.size<W.heap.size):=⟨kc.lt⟩
           clear hwk kx kc kc2 hgr hsz hL hcl
           go_upto_region 14 with fail
           clear t0 d0 d1 d2 d3 hrun hcube hb
           generalize wr.heap.size=cb at *
           by_cases hl2:lv=2
           · subst hl2
             rw [show (((2:Nat):Int))=2 from rfl] at *
             have hi0:i=0:=by have:=Hlv.out;omega
             have Hq0:Bx (⟨lx,ly,lz⟩=lowP 0 ⟨px,py,pz⟩):=⟨by rw [←hi0];exact Hq.out⟩
             go_upto_region 15 with fail
             rw [if_pos rfl] at HWK
             obtain ⟨O,hO⟩ : ∃ O:Obj,O = .cells #[px,py,pz,po,pn] 96:=⟨_,rfl⟩
             have hbO:Below W2.heap.size W2 (W2.alloc O):=(Below.refl _ _).alloc (Nat.le_refl _) _
             have hent:=(HWK.out.later hbO).entry (by have:=HN.out;simp only [maxLen];omega) ⟨px,py,pz,po,pn⟩
             simp only [Chg.at] at hent
             rw [←Hq0.out] at hent
             obtain ⟨v0,st,W5,hrunE,hmid⟩:=hent (fun q hq=>wf_small q (by
              simp only [List.mem_cons,List.not_mem_nil,or_false] at hq
              rcases hq with rfl | rfl | rfl | rfl <;> omega))
             have knew:Bk W5 W2.heap.size #[px,py,pz,po,pn] 96:=(hmid.grown.block W2.heap.size (by simp) (by
              intro e;injection e with e
              have h1:=HWK.out.bmap
              obtain ⟨fb,hM,-⟩:=h1
              have:=hM.lt;omega)).trans (by rw [hO];exact heap_alloc_new W2 _)
             have hnews:=World.news_of_block (cs:=#[px,py,pz,po,pn]) (t:=96) (fr:=(0,0)) knew
             obtain ⟨i0,hi0,hz0,hz1,hz2⟩:=info_parts (show (Tryz.prog.info? 96).map (fun i=>(i.zero,i.size,i.bytes))=some (some (.agg #[(0:Int),(0:Int),(0:Int),(0:Int),(0:Int)]),5,40) by kernel_rfl)
             obtain ⟨nl,hnl⟩ : ∃ nl,nl=(inb (cs.take j) (lowP 0 (Chg.at ⟨px,py,pz,po,pn⟩))).length:=⟨_,rfl⟩
             have hnl2:nl≤4194304:=by
              rw [hnl];unfold inb
              have h1:=List.length_filter_le (fun c:Chg=>decide (Tr.InC 0 (lowP 0 (Chg.at ⟨px,py,pz,po,pn⟩)) c.at)) (cs.take j)
              have h2:=List.length_take_le j cs
              omega
             have hown:=hmid.own
             have hbase:=hmid.bel.size
             rw [←hnl] at hown
             have Hown:=Bx.mk hown
             have Hnews:=Bx.mk hnews
             have HI0:=Bx.mk hi0
             have HZ0:=Bx.mk hz0
             have HZ1:=Bx.mk hz1
             have HZ2:=Bx.mk hz2
             have e0:=HWK.out.kb.cell 0 rfl
             obtain ⟨d0,d1,d2,d3⟩:=Kc2.out.c4
             obtain ⟨x0,x1,x2,x3,x4⟩:=Kx.out.c5
             subst hO
             have Hnl:=Bx.mk hnl
             have Hmid:=Bx.mk hmid
             have Hnl2:=Bx.mk hnl2
             clear hmid hnl hown hnews hi0 hz0 hz1 hz2 hbO knew hent hnl2
             go_wp2_with (at_builtin;refine wpList_append_own_at _ rfl _ _ 37 rfl w.heap.size 96 i0 _ 5 40 Tryz.underlying37 HI0.out HZ0.out HZ1.out HZ2.out rfl (by omega) v0 nl _ rfl Hown.out ⟨W2.heap.size,0,none⟩ 1 1 [.int .i64 px,.int .i64 py,.int .i64 pz,.int .i64 po,.int .i64 pn] rfl rfl Hnews.out (by simp [Value.oneCell']) (by have:=Hnl2.out;simp only [maxLen];omega) (by have:=Hnl2.out;omega) hbase ?_;intro v6 W6 hown6 hgr6 hnil6 hat6;obtain ⟨W7,hrunS,hwk7,hsz7,hold7⟩:=Hmid.out.push W6 v6 hgr6 (by have h:=hown6;rw [Hnl.out] at h;exact h) hat6;have Hw7:=Bx.mk (And.intro hwk7 (And.intro hsz7 hold7));clear hwk7 hsz7 hold7 hown6 hgr6 hnil6 hat6)
             have kx7:Bk W7 xb #[px,py,pz,po,pn] 96:=by
              have hl:=Kx.out.lt
              refine (Hw7.out.2.2 xb (Nat.lt_of_lt_of_le hl (by simp)) (by omega) (fun e=>Hmid.out.nav xb e (.inr rfl))).trans ((heap_alloc_old W2 _ hl).trans Kx.out)
             have HJ:Bx (WK w (fun k=>Four w.heap.size k∨k=xb) N (w.heap.size+1+1+1) (w.heap.size+1) (w.heap.size+1+1) w.heap.size (30 * j+2 * (2+1)) (touL (cs.take j) ⟨px,py,pz,po,pn⟩ (2+1)) (if 2+1=2 then cs.take j else cs.take (j+1)) W7∧Bk W7 xb #[px,py,pz,po,pn] 96):=⟨by
              rw [if_neg (by omega),take_snoc' Hed.out]
              exact ⟨Hw7.out.1.mono (by omega) (fun _ _ _=>Iff.rfl),kx7⟩⟩
             clear Hw7 kx7 Hmid hrunS Kx Kc2 HWK Hown Hnews e0 d0 d1 d2 d3 x0 x1 x2 x3 x4
             go_wp2_with fail
             go_roundw
             case rel=>exact ⟨2+1,by omega,by omega,by go_num,HJ⟩
             case measure=>simp [intOf]
           · have t2:((lv:Int) == 2)=false:=by simp;omega
             have HJ:Bx (WK w (fun k=>Four w.heap.size k∨k=xb) N (w.heap.size+1+1+1) (w.heap.size+1) (w.heap.size+1+1) w.heap.size (30 * j+2 * (lv+1)) (touL (cs.take j) ⟨px,py,pz,po,pn⟩ (lv+1)) (if lv+1=2 then cs.take j else cs.take (j+1)) W2∧Bk W2 xb #[px,py,pz,po,pn] 96):=⟨by
              have hh:=HWK.out
              rw [if_neg hl2] at hh
              rw [if_neg (by omega)]
              exact ⟨hh.mono (by omega) (fun _ _ _=>Iff.rfl),Kx.out⟩⟩
             clear HWK Kx Kc2 hl2
             go_wp2_with fail
             go_roundw
             case rel=>exact ⟨lv+1,by omega,by omega,by go_num,HJ⟩
             case measure=>simp [intOf];omega
         · obtain rfl:lv=N+3:=by omega
           have t1:decide (((N+3:Nat):Int)≤(N:Int)+2)=false:=by simp
           have HJ:Bx (WK w (Four w.heap.size) N (w.heap.size+1+1+1) (w.heap.size+1) (w.heap.size+1+1) w.heap.size (30 * (j+1)) (touT (cs.take (j+1))) (cs.take (j+1)) wr ∧ ∀ c∈cs.take (j+1),okChg N c):=⟨by
            have hh:=hL.out.1
            rw [if_neg (by omega)] at hh
            refine ⟨(hh.avoid (Av':=Four w.heap.size) (Below.refl _ _) (fun k hk=>.inl (.inl hk)) (fun k hk=>hh.lt k (.inl hk)) ⟨.inr (.inr (.inr rfl)),.inr (.inl rfl),.inr (.inr (.inl rfl)),.inl rfl⟩).mono (by omega) (fun n a hn=>?_),fun c hc=>?_⟩
            · rw [take_snoc' Hed.out];exact touL_end _ _ N n hn a
            · rw [take_snoc' Hed.out] at hc
              rcases List.mem_append.1 hc with hc | hc
              · exact HV.out c hc
              · rw [List.mem_singleton.1 hc];exact HVc.out⟩
           clear hL
           go_wp2_with fail
           go_roundw
           case rel=>exact ⟨j+1,by omega,by go_num,HJ⟩
           case measure=>simp [intOf];omega
      · rw [show decide (0≤pn∧pn≤255)=false by simpa using h2] at Hc
        have HB:Bx (¬ ∀ c∈cs,okChg N c):=⟨fun h=>h2 (h _ (List.mem_of_getElem? Hed.out)).2⟩
        clear h2
        obtain ⟨cx0,cx1,cx2⟩:=kx.r3
        have cx4 : ∀ dk osk,(grow (redrawn W dk) osk).cell? ⟨xb,4,none⟩=some (.int .i64 pn):=cell_regrown (kx.cell 4 rfl)
        have q0:=Bx.mk fun dk osk=>Calls.regrown_of (Hwh.out (grow (redrawn W dk) osk))
        have q1:=Bx.mk fun dk osk=>Calls.regrown_of (Hbox.out (grow (redrawn W dk) osk))
        have q2:=Bx.mk fun dk osk=>Calls.regrown_of (Hi.out (grow (redrawn W dk) osk))
        have q3:=Bx.mk fun dk osk=>Calls.regrown_of ((Hc.out (grow (redrawn W dk) osk)).mono fun e w' h=>(⟨h.1,by rw [←h.2];exact Below.refl _ _⟩:e=_∧Below (grow (redrawn W dk) osk).heap.size (grow (redrawn W dk) osk) w'))
        refine wp_region_quiet_below (by kernel_rfl) (by kernel_rfl) ?_
        repeat (first | go_big_quiet_step ((first | with_reducible exact q0.out _ _ | with_reducible exact q1.out _ _ | with_reducible exact q2.out _ _ | with_reducible exact q3.out _ _)) | quiet_step (first | with_reducible exact q0.out _ _ | with_reducible exact q1.out _ _ | with_reducible exact q2.out _ _ | with_reducible exact q3.out _ _))
        refine wpQuiet_nil ?_
        rintro _ ⟨⟨dq,osq⟩,rfl⟩
        have hb:=below_regrown W dq osq
        clear cx0 cx1 cx2 cx4 q0 q1 q2 q3
        replace kx:=kx.later hb
        replace HK:=Bx.mk (HK.out.later hb)
        clear hb
        generalize grow (redrawn W dq) osq=W1 at *
        go_wp2_with fail
        go_ret2
        exact ⟨fun h=>absurd h HB.out,fun _=>⟨rfl,HK.out.bel⟩⟩
    · have Hi:=Bx.mk fun W=>Hin.out px py pz W
      rw [show inB ⟨px,py,pz⟩ ⟨⟨0,0,0⟩,⟨M,M,M⟩⟩=false by rw [HM.out];exact Bool.eq_false_iff.2 h1] at Hi
      have Hc:=Bx.mk fun W=>isCell10_any pn W
      have HB:Bx (¬ ∀ c∈cs,okChg N c):=⟨fun h=>h1 (h _ (List.mem_of_getElem? Hed.out)).1⟩
      clear h1
      obtain ⟨cx0,cx1,cx2⟩:=kx.r3
      have cx4 : ∀ dk osk,(grow (redrawn W dk) osk).cell? ⟨xb,4,none⟩=some (.int .i64 pn):=cell_regrown (kx.cell 4 rfl)
      have q0:=Bx.mk fun dk osk=>Calls.regrown_of (Hwh.out (grow (redrawn W dk) osk))
      have q1:=Bx.mk fun dk osk=>Calls.regrown_of (Hbox.out (grow (redrawn W dk) osk))
      have q2:=Bx.mk fun dk osk=>Calls.regrown_of (Hi.out (grow (redrawn W dk) osk))
      have q3:=Bx.mk fun dk osk=>Calls.regrown_of ((Hc.out (grow (redrawn W dk) osk)).mono fun e w' h=>(⟨h.1,by rw [←h.2];exact Below.refl _ _⟩:e=_∧Below (grow (redrawn W dk) osk).heap.size (grow (redrawn W dk) osk) w'))
      refine wp_region_quiet_below (by kernel_rfl) (by kernel_rfl) ?_
      repeat (first | go_big_quiet_step ((first | with_reducible exact q0.out _ _ | with_reducible exact q1.out _ _ | with_reducible exact q2.out _ _ | with_reducible exact q3.out _ _)) | quiet_step (first | with_reducible exact q0.out _ _ | with_reducible exact q1.out _ _ | with_reducible exact q2.out _ _ | with_reducible exact q3.out _ _))
      refine wpQuiet_nil ?_
      rintro _ ⟨⟨dq,osq⟩,rfl⟩
      have hb:=below_regrown W dq osq
      clear cx0 cx1 cx2 cx4 q0 q1 q2 q3
      replace kx:=kx.later hb
      replace HK:=Bx.mk (HK.out.later hb)
      clear hb
      generalize grow (redrawn W dq) osq=W1 at *
      go_wp2_with fail
      go_ret2
      exact ⟨fun h=>absurd h HB.out,fun _=>⟨rfl,HK.out.bel⟩⟩
  · obtain rfl:j=cs.length:=by omega
    rw [List.take_of_length_le (Nat.le_refl _)] at hI
    have t0:decide ((cs.length:Int)<(cs.length:Int))=false:=by simp
    have HV:=Bx.mk hI.out.2
    have hq:=Bx.mk (hch.out _ _ _ _ _ _ wr hI.out.2 hI.out.1)
    clear hI
    go_wp2_with fail
    refine hq.out.mono ?_
    rintro e w' ⟨hG,i,r,rfl⟩
    have Hg:=Bx.mk hG
    clear hG
    go_wp2_with fail
    go_ret2
    exact ⟨fun _=>Hg.out,fun h=>absurd HV.out h⟩
end
end Go.Proofs.YtfcbajmjaifjlaaGreat
