/- M15, M16, M17: joined by program. -/
import Derived.Test.YtfcbajmjaifjlaaGreatM5
import Derived.Laws.EntriesVeiled
set_option maxHeartbeats 2000000
set_option maxRecDepth 100000
set_option linter.all false
namespace Go.Proofs.YtfcbajmjaifjlaaGreat
section
open Go.Sort
theorem zBX {p:Pt} {b:Box} (h:inB p b=true):atB b (ze b p)=p:=by
 have he:=zc h;have hb:=zf h;have h':=zb.1 h;unfold atB;rw [if_pos hb]
 have hi:ze b p=((p.z - b.lo.z) * (b.hi.y - b.lo.y)+(p.y - b.lo.y)) * (b.hi.x - b.lo.x)+(p.x - b.lo.x):=by
  unfold ze;rw [if_pos h,zAA he];rfl
 rw [hi,zAA he];simp only [Pt.sub];obtain ⟨px,py,pz⟩:=p;simp only at *
 have e1 : ∀ t sx dx:Int,0≤dx→dx<sx→(t * sx+dx) % sx=dx∧(t * sx+dx) / sx=t:=by
  intro t sx dx h1 h2;constructor
  · rw [Int.add_comm,Int.add_mul_emod_self_right,Int.emod_eq_of_lt h1 h2]
  · rw [Int.add_comm,Int.add_mul_ediv_right _ _ (by omega),Int.ediv_eq_zero_of_lt h1 h2];omega
 have f1:=e1 ((pz - b.lo.z) * (b.hi.y - b.lo.y)+(py - b.lo.y)) (b.hi.x - b.lo.x) (px - b.lo.x) (by omega) (by omega)
 have f2:=e1 (pz - b.lo.z) (b.hi.y - b.lo.y) (py - b.lo.y) (by omega) (by omega)
 rw [f1.1,f1.2,f2.1,f2.2];simp;omega
theorem zGg {b:Box} {x y z j:Int} (h:inB ⟨x,y,z⟩ b=true) (h':inB ⟨x+j,y,z⟩ b=true):ze b ⟨x+j,y,z⟩=ze b ⟨x,y,z⟩+j:=by
 unfold ze;rw [if_pos h,if_pos h'];simp only;omega
theorem zGZ {p:Pt} {a b:Box}:inB p (zGx a b)=true ↔ inB p a=true∧inB p b=true:=by
 simp only [zb,zGx];omega
theorem zGa {p:Pt} {a b:Box} (h:inB p a=true) (h':inB p b=true):inB p (zn a b)=true∧zn a b=zGx a b:=by
 have hj:=zGZ.2 ⟨h,h'⟩
 have e:zn a b=zGx a b:=by
  unfold zn;rw [if_neg (by rw [zc hj];decide)]
 exact ⟨by rw [e];exact hj,e⟩
theorem zIQ {a b:Box} (h:zS (zn a b)=false):zn a b=zGx a b:=by
 unfold zn at h ⊢;split
 · rename_i he;rw [if_pos he] at h;exact absurd h (by decide)
 · rfl
def zE (b:Box) (xs:List Int) (p:Pt):Int:=if inB p b=true then xs.getD (ze b p).toNat 0 else 0
def cellsOf (b:Box) (f:Pt→Int):List Int:=(List.range (zAE b).toNat).map fun i:Nat=>f (atB b (i:Int))
theorem zK (b:Box) (f:Pt→Int):(cellsOf b f).length=(zAE b).toNat:=by simp [cellsOf]
theorem zJ {b:Box} {f:Pt→Int} {i:Nat} (h:i<(zAE b).toNat):(cellsOf b f)[i]? = some (f (atB b i)):=by
 unfold cellsOf;rw [List.getElem?_map,List.getElem?_range h];rfl
theorem zBZ {b:Box} {i:Nat} (h:i<(zAE b).toNat):inB (atB b i) b=true∧ze b (atB b i)=i:=zBV (by omega) (by omega)
theorem zCC {b:Box} {f:Pt→Int} {p:Pt} (h:inB p b=true):zE b (cellsOf b f) p=f p:=by
 have hb:=zf h;unfold zE;rw [if_pos h,List.getD_eq_getElem?_getD,zJ (by omega),Int.toNat_of_nonneg hb.1,zBX h];rfl
theorem zCZ {b:Box} {xs:List Int} (h:xs.length=(zAE b).toNat):cellsOf b (zE b xs)=xs:=by
 apply List.ext_getElem?;intro i;by_cases hi:i<(zAE b).toNat
 · rw [zJ hi];obtain ⟨h1,h2⟩:=zBZ hi;unfold zE;rw [if_pos h1,h2,Int.toNat_natCast,List.getD_eq_getElem?_getD,lge (by omega)];rfl
 · rw [List.getElem?_eq_none (by rw [zK];omega),List.getElem?_eq_none (by omega)]
theorem zI {b:Box} {f g:Pt→Int} (h : ∀ p,inB p b=true→f p=g p):cellsOf b f=cellsOf b g:=by
 unfold cellsOf;apply List.map_congr_left;intro i hi;exact h _ (zBZ (List.mem_range.1 hi)).1
def zKA (A B:Box) (xs ys:List Int):List Int:=cellsOf A fun p=>if inB p B=true then zE B ys p else zE A xs p
def zJq (A B:Box) (xs ys:List Int) (z y:Int):List Int:=cellsOf A fun p=>if inB p B=true∧(p.z<z∨(p.z=z∧p.y<y)) then zE B ys p else zE A xs p
theorem zJu {A B:Box} {xs ys:List Int} (h:xs.length=(zAE A).toNat):zJq A B xs ys (zn A B).lo.z (zn A B).lo.y=xs:=by
 refine Eq.trans (zI fun p hp=>?_) (zCZ h);refine if_neg fun ⟨h1,h2⟩=>?_;have:=zb.1 (zGa hp h1).1;omega
theorem zJr {A B:Box} {xs ys:List Int}:zJq A B xs ys (zn A B).hi.z (zn A B).lo.y=zKA A B xs ys:=by
 refine zI fun p hp=>?_;by_cases h1:inB p B=true
 · have:=zb.1 (zGa hp h1).1;rw [if_pos h1,if_pos ⟨h1,by omega⟩]
 · rw [if_neg h1,if_neg (fun h=>h1 h.1)]
theorem zJs {A B:Box} {xs ys:List Int} {z:Int}:zJq A B xs ys z (zn A B).hi.y=zJq A B xs ys (z+1) (zn A B).lo.y:=by
 refine zI fun p hp=>?_;by_cases h1:inB p B=true
 · have:=zb.1 (zGa hp h1).1;have e:(p.z<z∨p.z=z∧p.y<(zn A B).hi.y) ↔ (p.z<z+1∨p.z=z+1∧p.y<(zn A B).lo.y):=by omega
   simp only [e]
 · rw [if_neg (fun h=>h1 h.1),if_neg (fun h=>h1 h.1)]
theorem zLo {A B:Box} {la lb lc ld le lf z y:Int} (hM:zn A B=⟨⟨la,lb,lc⟩,⟨ld,le,lf⟩⟩) (hz:lc≤z∧z<lf) (hy:lb≤y∧y<le):la<ld ∧ ∀ j,0≤j→j<ld - la→inB ⟨la+j,y,z⟩ A=true∧inB ⟨la+j,y,z⟩ B=true:=by
 have hlt:la<ld:=by
  unfold zn at hM;split at hM
  · simp [Box.zero,Pt.zero] at hM;omega
  · rename_i he;have:=zT.1 (by simpa using he)
    rw [hM] at this;exact this.1
 refine ⟨hlt,fun j h1 h2=>?_⟩;have Ph:zS (zn A B)=false:=by rw [hM,zT];simp only;omega
 rw [zIQ Ph] at hM;refine zGZ.1 ?_;rw [hM,zb];simp only;omega
theorem zJt {A B:Box} {xs ys:List Int} {la lb lc ld le lf z y:Int} {k from_ n:Nat} (hM:zn A B=⟨⟨la,lb,lc⟩,⟨ld,le,lf⟩⟩) (hz:lc≤z∧z<lf) (hy:lb≤y∧y<le)
 (hk:ze A ⟨la,y,z⟩=(k:Int)) (hf:ze B ⟨la,y,z⟩=(from_:Int)) (hn:ld - la=(n:Int)) (TN:ys.length=(zAE B).toNat) :
 1≤n∧from_+n≤ys.length∧k+n≤(zAE A).toNat∧over (zJq A B xs ys z y) k ((ys.drop from_).take n)=zJq A B xs ys z (y+1):=by
 obtain ⟨hlt,RJ⟩:=zLo hM hz hy;have R7:=RJ 0 (by omega) (by omega)
 rw [Int.add_zero] at R7
 have ka : ∀ j,0≤j→j<(n:Int)→ze A ⟨la+j,y,z⟩=(k:Int)+j:=fun j h1 h2=>by
  rw [zGg R7.1 (RJ j h1 (by omega)).1,hk]
 have kb : ∀ j,0≤j→j<(n:Int)→ze B ⟨la+j,y,z⟩=(from_:Int)+j:=fun j h1 h2=>by
  rw [zGg R7.2 (RJ j h1 (by omega)).2,hf]
 have e1:=zf (RJ ((n:Int) - 1) (by omega) (by omega)).1
 have e2:=zf (RJ ((n:Int) - 1) (by omega) (by omega)).2
 rw [ka _ (by omega) (by omega)] at e1
 rw [kb _ (by omega) (by omega)] at e2
 have hfn:from_+n≤ys.length:=by omega
 have OP:k+n≤(zAE A).toNat:=by omega
 refine ⟨by omega,hfn,OP,?_⟩
 have LZ:((ys.drop from_).take n).length=n:=by simp only [List.length_take,List.length_drop];omega
 have hpl:(zJq A B xs ys z y).length=(zAE A).toNat:=zK _ _;apply List.ext_getElem?;intro i;by_cases hi:i<(zAE A).toNat
 · obtain ⟨a1,a2⟩:=zBZ hi;have RE:(zJq A B xs ys z (y+1))[i]? = _:=zJ hi;have Ou:(zJq A B xs ys z y)[i]? = _:=zJ hi;rw [RE];unfold over splice;by_cases hin:k≤i∧i<k+n
   · -- in the row
     have hp:atB A i=⟨la+((i:Int) - k),y,z⟩:=by
      have:=zBX (RJ ((i:Int) - k) (by omega) (by omega)).1
      rw [ka _ (by omega) (by omega)] at this
      rw [show (k:Int)+((i:Int) - k)=i by omega] at this
      exact this
     have hB:=(RJ ((i:Int) - k) (by omega) (by omega)).2
     rw [hp,if_pos ⟨hB,Or.inr ⟨rfl,show y<y+1 by omega⟩⟩]
     unfold zE;rw [if_pos hB,kb _ (by omega) (by omega)]
     have PT:(List.take k (zJq A B xs ys z y)).length=k:=by rw [List.length_take];omega
     have hik:i - k<((ys.drop from_).take n).length:=by omega
     rw [List.getElem?_append_right (by omega),PT,List.getElem?_append_left hik,List.getElem?_take,if_pos (by omega),List.getElem?_drop]
     rw [show from_+(i - k)=((from_:Int)+((i:Int) - k)).toNat by omega,List.getD_eq_getElem?_getD,lge (by omega)]
     rfl
   · have hl:(List.take k (zJq A B xs ys z y)++(List.take n (List.drop from_ ys)++List.drop (k+(List.take n (List.drop from_ ys)).length) (zJq A B xs ys z y)))[i]? = (zJq A B xs ys z y)[i]? := by
      rw [LZ];by_cases hik:i<k
      · rw [List.getElem?_append_left (by rw [List.length_take];omega),List.getElem?_take,if_pos hik]
      · rw [List.getElem?_append_right (by rw [List.length_take];omega),List.length_take,List.getElem?_append_right (by omega),List.getElem?_drop,LZ]
        congr 1;omega
     rw [hl,Ou]
     congr 1
     by_cases hB:inB (atB A i) B=true
     · have hm:=zb.1 (zGa a1 hB).1;rw [hM] at hm;simp only at hm
       have Px : ¬((atB A i).z=z∧(atB A i).y=y):=by
        rintro ⟨h1,h2⟩
        have hp:atB A i=⟨la+((atB A i).x - la),y,z⟩:=by
         rw [←h1,←h2,show la+((atB A i).x - la)=(atB A i).x by omega]
        have:=ka ((atB A i).x - la) (by omega) (by omega)
        rw [←hp,a2] at this;omega
       have e:((atB A i).z<z∨(atB A i).z=z∧(atB A i).y<y) ↔ ((atB A i).z<z∨(atB A i).z=z∧(atB A i).y<y+1):=by omega
       simp only [e]
     · rw [if_neg (fun h=>hB h.1),if_neg (fun h=>hB h.1)]
 · rw [List.getElem?_eq_none (by rw [zJX (by omega)];omega),List.getElem?_eq_none (by rw [show (zJq A B xs ys z (y+1)).length=_ from zK _ _];omega)]
end
section
open Go.RowKit Go.Sort
theorem Sl.grown {w w':World} {k:IntKind} {b off g:Nat} {xs:List Int} (h:Sl w k (some ⟨b,off,none⟩) xs) (hg:w.grownBy w' (some g)) (Ph:b ≠ g):Sl w' k (some ⟨b,off,none⟩) xs:=by
 intro i x hx;obtain ⟨b',off',e,hc⟩:=h i x hx;refine ⟨b',off',e,?_⟩;injection e with e;injection e with e1 e2;subst e1 e2;have hlt:b<w.heap.size:=World.block_lt_of_cell? _ _ hc;exact (World.cell?_of_block (hg.block b hlt (fun e=>Ph (by injection e)))).trans hc
theorem zIO {A B:Box} {la lb lc ld le lf:Int} (h:Small A 1048575) (hM:zn A B=⟨⟨la,lb,lc⟩,⟨ld,le,lf⟩⟩) :
 -1048576≤la ∧ -1048576≤lb ∧ -1048576≤lc∧ld≤1048576∧le≤1048576∧lf≤1048576∧la≤ld∧lb≤le∧lc≤lf:=by
 obtain ⟨s1,s2,s3,s4,s5,s6⟩:=h;unfold zn at hM;split at hM
 · simp [Box.zero,Pt.zero] at hM;omega
 · rename_i he;have he:=zT.1 (by simpa using he)
   rw [hM] at he;simp only [zGx,Box.mk.injEq,Pt.mk.injEq] at hM;simp only at he;omega
theorem Sl.any {w:World} {k:IntKind} {a a':Option Addr} (_h:Sl w k a []):Sl w k a' []:=Sl.nil _ _ _
theorem zKF (pg ph g N cap Bd:Nat) (a b c d e f a2 b2 c2 d2 e2 f2:Int) (gc:Value) (ha:Option Addr) (hcp:Nat) (xs ys:List Int) (w:World) (J7:Small ⟨⟨a,b,c⟩,⟨d,e,f⟩⟩ 1048575) (J9:Small ⟨⟨a2,b2,c2⟩,⟨d2,e2,f2⟩⟩ 1048575)
 (TF:xs.length=(zAE ⟨⟨a,b,c⟩,⟨d,e,f⟩⟩).toNat) (TN:ys.length=(zAE ⟨⟨a2,b2,c2⟩,⟨d2,e2,f2⟩⟩).toNat) (hN:N≤4194304) (hY:ys.length≤4194304) (LF:ys.length≤hcp) (hag:0<ys.length → ∀ b off,ha=some ⟨b,off,none⟩→b ≠ g)
 (kg:Bk w pg #[a,b,c,d,e,f,gc] 28) (kh:Bk w ph #[a2,b2,c2,d2,e2,f2,.slice ha ys.length hcp] 28) (hx:Sl w .i64 ha ys) (ho:Own w Bd 3 .i64 (.slice (some ⟨g,0,none⟩) N cap) xs) (_hgp:g ≠ pg) (NI:g ≠ ph) :
 Calls Tryz.prog 166 #[.slice (some ⟨g,0,none⟩) N cap,.pointer (some ⟨pg,0,none⟩),.pointer (some ⟨ph,0,none⟩)] w fun e' w'=>e' = .returned (.tuple #[])∧Own w' Bd 3 .i64 (.slice (some ⟨g,0,none⟩) N cap) (zKA ⟨⟨a,b,c⟩,⟨d,e,f⟩⟩ ⟨⟨a2,b2,c2⟩,⟨d2,e2,f2⟩⟩ xs ys)∧w.grownBy w' (some g):=by
 obtain ⟨⟨⟨la,lb,lc⟩,⟨ld,le,lf⟩⟩,hM⟩ : ∃ M,zn ⟨⟨a,b,c⟩,⟨d,e,f⟩⟩ ⟨⟨a2,b2,c2⟩,⟨d2,e2,f2⟩⟩=M:=⟨_,rfl⟩;have NK:=(ho.lt g rfl).2;have Ix:xs.length=N:=ho.raw.choose_spec.2.2.2.2.2.2.symm;have S9:=kg.lt;have SB:=kh.lt;have cg:=fun (j:Nat) v (h:(#[a,b,c,d,e,f,gc]:Array Value)[j]? = some v)=>(kg.alloc (.cells #[.slice (some ⟨g,0,none⟩) N cap] 26)).cell j h;have ch:=fun (j:Nat) v (h:(#[a2,b2,c2,d2,e2,f2,.slice ha ys.length hcp]:Array Value)[j]? = some v)=>(kh.alloc (.cells #[.slice (some ⟨g,0,none⟩) N cap] 26)).cell j h;have F4:=cg 0 _ rfl;have FC:=ch 0 _ rfl;have F5:=cg 1 _ rfl;have FD:=ch 1 _ rfl;have F6:=cg 2 _ rfl;have FE:=ch 2 _ rfl;have F7:=cg 3 _ rfl;have FG:=ch 3 _ rfl;have F8:=cg 4 _ rfl;have FH:=ch 4 _ rfl;have F9:=cg 5 _ rfl;have FI:=ch 5 _ rfl;have FA:=cg 6 _ rfl;have FJ:=ch 6 _ rfl;clear cg ch;go_enter Tryz.func166,Tryz.ntmps166;go_wp2_with fail;generalize hW:w.alloc _=W;have hb:=bl1 hW;have kb:Bk W w.heap.size #[.slice (some ⟨g,0,none⟩) N cap] 26:=bk0 hW rfl;clear hW F4 FC F5 FD F6 FE F7 FG F8 FH F9 FI FA FJ;have Tq:=kh.la hb;have Q6:=ho.below hb;have TA:=hx.below hb;have JE:=hb.size;have J8:=J7;obtain ⟨s1,s2,s3,s4,s5,s6⟩:=J8;have hJ:=hM
 refine (zLu ph w.heap.size g a b c d e f a2 b2 c2 d2 e2 f2 la lb lc ld le lf gc J7 hM ?_
  (fun z y W'=>Own W' Bd 3 .i64 (.slice (some ⟨g,0,none⟩) N cap) (zJq ⟨⟨a,b,c⟩,⟨d,e,f⟩⟩ ⟨⟨a2,b2,c2⟩,⟨d2,e2,f2⟩⟩ xs ys z y)∧Bk W' ph #[a2,b2,c2,d2,e2,f2,.slice ha ys.length hcp] 28∧Bk W' w.heap.size #[.slice (some ⟨g,0,none⟩) N cap] 26∧Sl W' .i64 ha ys) W (by omega) ?_ ?_ ?_ ?_).mono ?_
 · exact zIO J7 hM
 · rintro z y W1 W2 ⟨h1,h2,h3,h4⟩ hb;exact ⟨h1.below hb,h2.la hb,h3.la hb,h4.below hb⟩
 · refine ⟨?_,Tq,kb,TA⟩;have:=zJu (A:=⟨⟨a,b,c⟩,⟨d,e,f⟩⟩) (B:=⟨⟨a2,b2,c2⟩,⟨d2,e2,f2⟩⟩) (ys:=ys) TF;rw [hM] at this;rw [this];exact Q6
 · rintro z y W1 z1 z2 y1 y2 ⟨h1,h2,h3,h4⟩ NQ;obtain ⟨hlt,RJ⟩:=zLo hM ⟨z1,z2⟩ ⟨y1,y2⟩;have R7:=RJ 0 (by omega) (by omega)
   rw [Int.add_zero] at R7;obtain ⟨k,hk⟩ : ∃ k:Nat,ze ⟨⟨a,b,c⟩,⟨d,e,f⟩⟩ ⟨la,y,z⟩=(k:Int):=⟨_,(Int.toNat_of_nonneg (zf R7.1).1).symm⟩;obtain ⟨from_,hf⟩ : ∃ k:Nat,ze ⟨⟨a2,b2,c2⟩,⟨d2,e2,f2⟩⟩ ⟨la,y,z⟩=(k:Int):=⟨_,(Int.toNat_of_nonneg (zf R7.2).1).symm⟩;obtain ⟨n,hn⟩ : ∃ n:Nat,ld - la=(n:Int):=⟨(ld - la).toNat,by omega⟩
   obtain ⟨p1,p2,p3,p4⟩:=zJt (xs:=xs) hM ⟨z1,z2⟩ ⟨y1,y2⟩ hk hf hn TN;rw [hk,hn];refine (zLl ph w.heap.size g k n N cap la y z a2 b2 c2 d2 e2 f2 ha hcp ys _ J9 Bd from_ W1 hf p1 p2 (by omega) hN hY LF h2 h3 h4 h1 NI (by omega)).mono ?_
   rintro e' w3 ⟨rfl,h5,h6⟩;rw [p4] at h5;refine ⟨rfl,⟨h5,h2.grown h6 (Ne.symm NI),h3.grown h6 (by omega),?_⟩,h6⟩
   obtain ⟨bb,oo,e,_⟩:=h4 from_ (ys[from_]'(by omega)) (by simp)
   subst e;exact h4.grown h6 (hag (by omega) _ _ rfl)
 · rintro z W1 z1 z2 ⟨h1,h2,h3,h4⟩;have:=zJs (A:=⟨⟨a,b,c⟩,⟨d,e,f⟩⟩) (B:=⟨⟨a2,b2,c2⟩,⟨d2,e2,f2⟩⟩) (xs:=xs) (ys:=ys) (z:=z);rw [hM] at this;rw [this] at h1;exact ⟨h1,h2,h3,h4⟩
 · rintro e' w2 ⟨rfl,⟨h1,h2,h3,h4⟩,h5⟩;have:=zJr (A:=⟨⟨a,b,c⟩,⟨d,e,f⟩⟩) (B:=⟨⟨a2,b2,c2⟩,⟨d2,e2,f2⟩⟩) (xs:=xs) (ys:=ys);rw [hM] at this;rw [this] at h1;go_wp2_with fail
   go_end0
   exact ⟨rfl,h1,(zF4 ⟨hb.os,hb.tape,hb.output,hb.size,fun k hk _=>hb.block k hk⟩ h5)⟩
theorem zCj (pg ph:Nat) (a b c d e f a2 b2 c2 d2 e2 f2:Int) (ga ha:Option Addr) (Gj hcp:Nat) (xs ys:List Int) (w:World) (J7:Small ⟨⟨a,b,c⟩,⟨d,e,f⟩⟩ 1048575) (J9:Small ⟨⟨a2,b2,c2⟩,⟨d2,e2,f2⟩⟩ 1048575)
 (TF:xs.length=(zAE ⟨⟨a,b,c⟩,⟨d,e,f⟩⟩).toNat) (TN:ys.length=(zAE ⟨⟨a2,b2,c2⟩,⟨d2,e2,f2⟩⟩).toNat) (JP:1≤xs.length) (hN:xs.length≤4194304) (hY:ys.length≤4194304) (LF:ys.length≤hcp)
 (kg:Bk w pg #[a,b,c,d,e,f,.slice ga xs.length Gj] 28) (kh:Bk w ph #[a2,b2,c2,d2,e2,f2,.slice ha ys.length hcp] 28) (hx:Sl w .i64 ha ys) (hg:Sl w .i64 ga xs) :
 Calls Tryz.prog 160 #[.agg #[a,b,c,d,e,f,.slice ga xs.length Gj],.func (.func 166) #[] #[.pointer (some ⟨pg,0,none⟩),.pointer (some ⟨ph,0,none⟩)]] w
  fun e' w' => ∃ v,e' = .returned (.agg #[a,b,c,d,e,f,v])∧Own w' w.heap.size 3 .i64 v (zKA ⟨⟨a,b,c⟩,⟨d,e,f⟩⟩ ⟨⟨a2,b2,c2⟩,⟨d2,e2,f2⟩⟩ xs ys)∧Below w.heap.size w w':=by
 have hpg:=kg.lt;have hph:=kh.lt;have LZ:=Bx.mk fun W h=>zMP ga Gj xs W (by omega) h
 have Lc:=Bx.mk fun Bd g N cap W h1 h2 h3 h4 h5 h6 h7 h8=>zKF pg ph g N cap Bd a b c d e f a2 b2 c2 d2 e2 f2 (.slice ga xs.length Gj) ha hcp xs ys W J7 J9 TF TN h8 hY LF h1 h2 h3 h4 h5 h6 h7
 have JU:0<ys.length → ∀ b off,ha=some ⟨b,off,none⟩→b<w.heap.size:=fun h b off e=>by
  subst e;obtain ⟨b',off',e,hc⟩:=hx 0 (ys[0]'h) (by simp)
  injection e with e;injection e with e1 e2;subst e1 e2;exact World.block_lt_of_cell? _ _ hc
 have CO:=Bx.mk JU;have Hx:=Bx.mk hx;have Hg:=Bx.mk hg;have Kg:=Bx.mk kg;have Kh:=Bx.mk kh;clear JU hx hg kg kh J7 J9 TF TN hY LF;go_enter Tryz.func160,Tryz.ntmps160;go_wp2_with fail;generalize hW:(w.alloc _).alloc _=W;have JE:=sz2 hW;have hB:=bl2 hW;have kr:Bk W (w.heap.size) #[a,b,c,d,e,f,.slice ga xs.length Gj] 28:=bk1 hW;have kq:Bk W (w.heap.size+1) #[(0:Int),(0:Int),(0:Int),(0:Int),(0:Int),(0:Int),.slice none 0 0] 28:=bk0 hW;clear hW;obtain ⟨Fj,Fk,Fl,Fm,Fn,Fo,Fp⟩:=kr.c7;go_wp2_with fail;refine (LZ.o _ (Hg.o.below hB)).mono ?_;rintro e' w1 ⟨v,rfl,ho,hb⟩;clear LZ;obtain ⟨Bd,I8⟩ : ∃ Bd,Bd=W.heap.size:=⟨_,rfl⟩;rw [←I8] at ho hb;have JA:w.heap.size+2≤Bd:=by omega
 replace hb:Below W.heap.size W w1:=I8 ▸ hb;clear Fj Fk Fl Fm Fn Fo Fp;replace hB:=tr hB hb;replace kr:=kr.la hb;replace kq:=kq.la hb;replace JE:=nlt JE hb.size;clear hb;obtain ⟨g,cap,rfl,N3,N4,-,-,-⟩:=ho.at (by omega)
 go_wp2_with fail;refine (Lc.o Bd g xs.length cap w1 (fun h b off e=>by have:=CO.o h b off e;omega) (Kg.o.la hB) (Kh.o.la hB) (Hx.o.below hB) ho (by omega) (by omega) hN).mono ?_
 rintro e' w3 ⟨rfl,h1,NQ⟩;clear Lc;replace hB:=hB.grown NQ hB.size (fun k hk=>by injection hk;omega)
 replace kr:=kr.grown NQ (by omega)
 replace kq:=kq.grown NQ (by omega)
 have H1:=Bx.mk h1;clear h1 NQ ho N3 N4 Hg Hx Kg Kh CO;obtain ⟨Fj,Fk,Fl,Fm,Fn,Fo,Fp⟩:=kr.c7;obtain ⟨Fd,Fe,Ff,Fg,Fh,Fi,cq6⟩:=kq.c7;obtain ⟨fq0,fq1,fq2,fq3,fq4,fq5,fq6⟩:=kq.f7;go_wp2_with fail;replace kq:=kq.put7 (.int .i64 a) (.int .i64 b) (.int .i64 c) (.int .i64 d) (.int .i64 e) (.int .i64 f) (.slice (some ⟨g,0,none⟩) xs.length cap);exact bodyPost_ret (v:=.agg #[a,b,c,d,e,f,.slice (some ⟨g,0,none⟩) xs.length cap]) (results_cell_row rfl _ _ _ 28 #[a,b,c,d,e,f,.slice (some ⟨g,0,none⟩) xs.length cap] (0,0) _ rfl kq Tryz.underlying28 rfl (by kernel_rfl)) rfl ⟨_,rfl,(((((((H1.o.setBelow (by simp;omega) _).setBelow (by simp;omega) _).setBelow (by simp;omega) _).setBelow (by simp;omega) _).setBelow (by simp;omega) _).setBelow (by simp;omega) _).setBelow (by simp;omega) _).base (by omega),zBn hB (by omega) _ _ _ _ _ _ _⟩
def zAc (a b c d e f:Int) (n:Nat) (zs:List Int) (w:World) (E:Ending) (w':World):Prop :=
 ∃ pa pc,E = .returned (.agg #[a,b,c,d,e,f,.slice pa n pc])∧n=zs.length∧Own w' w.heap.size 3 .i64 (.slice pa n pc) zs∧Below w.heap.size w w'
theorem zKB (A B:Box) (xs ys:List Int):(zKA A B xs ys).length=(zAE A).toNat:=zK _ _
theorem zKC (a b c d e f a2 b2 c2 d2 e2 f2:Int) (ga ha:Option Addr) (Gj hcp:Nat) (xs ys:List Int) (w:World) (J7:Small ⟨⟨a,b,c⟩,⟨d,e,f⟩⟩ 1048575) (J9:Small ⟨⟨a2,b2,c2⟩,⟨d2,e2,f2⟩⟩ 1048575)
 (TF:xs.length=(zAE ⟨⟨a,b,c⟩,⟨d,e,f⟩⟩).toNat) (TN:ys.length=(zAE ⟨⟨a2,b2,c2⟩,⟨d2,e2,f2⟩⟩).toNat) (JP:1≤xs.length) (hN:xs.length≤4194304) (hY:ys.length≤4194304) (LF:ys.length≤hcp)
 (hx:Sl w .i64 ha ys) (hg:Sl w .i64 ga xs) :
 Calls Tryz.prog 122 #[.agg #[a,b,c,d,e,f,.slice ga xs.length Gj],.agg #[a2,b2,c2,d2,e2,f2,.slice ha ys.length hcp]] w (zAc a b c d e f xs.length (zKA ⟨⟨a,b,c⟩,⟨d,e,f⟩⟩ ⟨⟨a2,b2,c2⟩,⟨d2,e2,f2⟩⟩ xs ys) w):=by
 have LT:=Bx.mk fun pg ph W h1 h2 h3 h4=>zCj pg ph a b c d e f a2 b2 c2 d2 e2 f2 ga ha Gj hcp xs ys W J7 J9 TF TN JP hN hY LF h1 h2 h3 h4;have Od:=Bx.mk (TF.trans (zKB ⟨⟨a,b,c⟩,⟨d,e,f⟩⟩ ⟨⟨a2,b2,c2⟩,⟨d2,e2,f2⟩⟩ xs ys).symm);have Hx:=Bx.mk hx;have Hg:=Bx.mk hg;clear J7 J9 TF TN hY LF JP hN hx hg;go_enter Tryz.func122,Tryz.ntmps122;go_wp2_with fail;generalize hW:((w.alloc _).alloc _).alloc _=W;have JE:=sz3 hW;have hB:=bl3 hW;have kg:Bk W (w.heap.size) #[a,b,c,d,e,f,.slice ga xs.length Gj] 28:=bk2 hW;have kh:Bk W (w.heap.size+1) #[a2,b2,c2,d2,e2,f2,.slice ha ys.length hcp] 28:=bk1 hW;have kr:Bk W (w.heap.size+1+1) #[(0:Int),(0:Int),(0:Int),(0:Int),(0:Int),(0:Int),.slice none 0 0] 28:=bk0 hW;clear hW;obtain ⟨F4,F5,F6,F7,F8,F9,FA⟩:=kg.c7;go_wp2_with fail;refine (LT.o _ _ _ kg kh (Hx.o.below hB) (Hg.o.below hB)).mono ?_;rintro e' w1 ⟨v,rfl,ho,hb⟩;obtain ⟨Bd,I8⟩ : ∃ Bd,Bd=W.heap.size:=⟨_,rfl⟩;rw [←I8] at ho hb;have JA:w.heap.size+3≤Bd:=by omega
 replace hb:Below W.heap.size W w1:=I8 ▸ hb;clear LT Hx Hg;clear F4 F5 F6 F7 F8 F9 FA;replace hB:=tr hB hb;replace kg:=kg.la hb;replace kh:=kh.la hb;replace kr:=kr.la hb;replace JE:=nlt JE hb.size;clear hb;obtain ⟨pa,pc,rfl,-⟩:=ho.form;rw [←Od.o] at ho;rw [←Od.o];have Ho:=Bx.mk ho;clear ho;obtain ⟨Fj,Fk,Fl,Fm,Fn,Fo,Fp⟩:=kr.c7;obtain ⟨GU,GV,GW,GX,GY,GZ,Ga⟩:=kr.f7;go_wp2_with fail;replace kr:=kr.put7 (.int .i64 a) (.int .i64 b) (.int .i64 c) (.int .i64 d) (.int .i64 e) (.int .i64 f) (.slice pa xs.length pc);exact bodyPost_ret (v:=.agg #[a,b,c,d,e,f,.slice pa xs.length pc]) (results_cell_row rfl _ _ _ 28 #[a,b,c,d,e,f,.slice pa xs.length pc] (0,0) _ rfl kr Tryz.underlying28 rfl (by kernel_rfl)) rfl ⟨_,_,rfl,Od.o,(((((((Ho.o.setBelow (by simp;omega) _).setBelow (by simp;omega) _).setBelow (by simp;omega) _).setBelow (by simp;omega) _).setBelow (by simp;omega) _).setBelow (by simp;omega) _).setBelow (by simp;omega) _).base (by omega),zBn hB (by omega) _ _ _ _ _ _ _⟩
theorem zDk {A B:Box} {ys:List Int} {n:Nat} (_hn:(zAE A).toNat=n):zKA A B (List.replicate n 0) ys=cellsOf A (zE B ys):=by
 refine zI fun p hp=>?_;split
 · rfl
 · rename_i h;have e:zE B ys p=0:=by unfold zE;rw [if_neg h]
   rw [e];unfold zE;rw [if_pos hp,List.getD_eq_getElem?_getD,List.getElem?_replicate];split <;> rfl
theorem zDj (a b c d e f a2 b2 c2 d2 e2 f2:Int) (ha:Option Addr) (hcp n:Nat) (ys:List Int) (h0:zIj ⟨⟨a,b,c⟩,⟨d,e,f⟩⟩ 0=0) (MV:zS ⟨⟨a,b,c⟩,⟨d,e,f⟩⟩=false) (hn:zAE ⟨⟨a,b,c⟩,⟨d,e,f⟩⟩=(n:Int)) (J9:Small ⟨⟨a2,b2,c2⟩,⟨d2,e2,f2⟩⟩ 1048575)
 (TN:ys.length=(zAE ⟨⟨a2,b2,c2⟩,⟨d2,e2,f2⟩⟩).toNat) (hY:ys.length≤4194304) (LF:ys.length≤hcp) (w:World) (hx:Sl w .i64 ha ys) :
 Calls Tryz.prog 75 #[.agg #[a2,b2,c2,d2,e2,f2,.slice ha ys.length hcp],.agg #[a,b,c,d,e,f]] w (RetG a b c d e f (cellsOf ⟨⟨a,b,c⟩,⟨d,e,f⟩⟩ (zE ⟨⟨a2,b2,c2⟩,⟨d2,e2,f2⟩⟩ ys)) 0 w):=by
 have QE:okB ⟨⟨a,b,c⟩,⟨d,e,f⟩⟩=true∧zAE ⟨⟨a,b,c⟩,⟨d,e,f⟩⟩≤2097152:=by
  unfold zIj at h0;split at h0
  · cases h0
  · rename_i h1;split at h0
    · cases h0
    · exact ⟨by cases h:okB ⟨⟨a,b,c⟩,⟨d,e,f⟩⟩ <;> simp_all,by omega⟩
 have Pw:(zAE ⟨⟨a,b,c⟩,⟨d,e,f⟩⟩).toNat=n:=by omega
 have Qn:=zBW MV;have hc:=Bx.mk fun W=>zIl a b c d e f 0 h0 MV n hn W;have hp:=Bx.mk fun pa pc W h1 h2=>zKC a b c d e f a2 b2 c2 d2 e2 f2 pa ha pc hcp (List.replicate n 0) ys W (zJG QE.1) J9 (by rw [List.length_replicate,Pw]) TN (by rw [List.length_replicate];omega) (by rw [List.length_replicate];omega) hY LF h1 h2
 rw [zDk Pw,List.length_replicate] at hp;have hz:=Bx.mk ((zK ⟨⟨a,b,c⟩,⟨d,e,f⟩⟩ (zE ⟨⟨a2,b2,c2⟩,⟨d2,e2,f2⟩⟩ ys)).trans Pw);have Hx:=Bx.mk hx;clear h0 MV hn J9 TN hY LF hx QE Qn Pw;generalize cellsOf ⟨⟨a,b,c⟩,⟨d,e,f⟩⟩ (zE ⟨⟨a2,b2,c2⟩,⟨d2,e2,f2⟩⟩ ys)=zs at *;go_enter Tryz.func75,Tryz.ntmps75;go_wp2_with fail;generalize hW:((w.alloc _).alloc _).alloc _=W;have JE:=sz3 hW;have hB:=bl3 hW;have kh:Bk W (w.heap.size) #[a2,b2,c2,d2,e2,f2,.slice ha ys.length hcp] 28:=bk2 hW;have kb:Bk W (w.heap.size+1) #[a,b,c,d,e,f] 25:=bk1 hW;have kr:Bk W (w.heap.size+1+1) #[(0:Int),(0:Int),(0:Int),(0:Int),(0:Int),(0:Int),.slice none 0 0] 28:=bk0 hW;clear hW;obtain ⟨Ev,cb1,cb2,cb3,Ew,Ex⟩:=kb.c6;go_wp2_with fail;refine (hc.o _).mono ?_;rintro e' w1 ⟨pa,pc,rfl,ho,Jr⟩;rw [List.length_replicate] at ho ⊢;have TA:=(Hx.o.below hB).below Jr;obtain ⟨Bd,I8⟩ : ∃ Bd,Bd=W.heap.size:=⟨_,rfl⟩;rw [←I8] at ho;have JA:w.heap.size+3≤Bd:=by omega
 clear hc Hx I8;clear Ev cb1 cb2 cb3 Ew Ex;replace hB:=tr hB Jr;replace kh:=kh.la Jr;replace kb:=kb.la Jr;replace kr:=kr.la Jr;replace JE:=nlt JE Jr.size;clear Jr;go_upto_region 2 with fail;obtain ⟨go,NO⟩ : ∃ go,go=w1.heap.size:=⟨_,rfl⟩;generalize hW2:w1.alloc _=W2;have Js:=bl1 hW2;have ko:Bk W2 go #[a,b,c,d,e,f,.slice pa n pc] 28:=by rw [NO,←hW2];exact zC _ _ _ rfl
 have TB:=TA.below Js;have Q7:=ho.sl.below Js;rw [←NO];have NK:w.heap.size≤go:=by omega
 clear hW2 ho TA;replace hB:=tr hB Js;replace kh:=kh.la Js;replace kb:=kb.la Js;replace kr:=kr.la Js;replace JE:=nlt JE Js.size;clear Js;obtain ⟨FC,FD,FE,FG,FH,FI,FJ⟩:=kh.c7;obtain ⟨co0,co1,co2,co3,co4,co5,Fb⟩:=ko.c7;clear NO;have Hx:=Bx.mk TB;have Ho:=Bx.mk Q7;clear TB Q7;go_wp2_with fail;refine (hp.o pa pc _ Hx.o Ho.o).mono ?_;rintro e' w3 ⟨qa,qc,rfl,-,QQ,Jv⟩;obtain ⟨Be,I9⟩ : ∃ Be,Be=W2.heap.size:=⟨_,rfl⟩;rw [←I9] at QQ;have hSe:w.heap.size+3≤Be:=by omega
 have Ho2:=Bx.mk QQ;clear QQ I9 hp Hx Ho;clear FC FD FE FG FH FI FJ co0 co1 co2 co3 co4 co5 Fb;replace hB:=tr hB Jv;replace kh:=kh.la Jv;replace kb:=kb.la Jv;replace kr:=kr.la Jv;replace JE:=nlt JE Jv.size;clear Jv;obtain ⟨Fj,Fk,Fl,Fm,Fn,Fo,Fp⟩:=kr.c7;obtain ⟨GU,GV,GW,GX,GY,GZ,Ga⟩:=kr.f7;go_wp2_with fail;replace kr:=kr.put7 (.int .i64 a) (.int .i64 b) (.int .i64 c) (.int .i64 d) (.int .i64 e) (.int .i64 f) (.slice qa n qc);obtain ⟨z0,z1,z2,z3,z4,z5,z6⟩:=kr.c7
 exact bodyPost_ret (v:=.tuple #[.agg #[a,b,c,d,e,f,.slice qa n qc],(0:Int)]) (by simp [results,Tryz.results75,go_sem,z0,z1,z2,z3,z4,z5,z6]) rfl ⟨qa,qc,by rw [hz.o],by
  rw [hz.o];exact (((((((Ho2.o.setBelow (by simp;omega) _).setBelow (by simp;omega) _).setBelow (by simp;omega) _).setBelow (by simp;omega) _).setBelow (by simp;omega) _).setBelow (by simp;omega) _).setBelow (by simp;omega) _).base (by omega),zBn hB (by omega) _ _ _ _ _ _ _⟩
end
section
open Go.RowKit Go.Sort Go.Maps
open Oct
structure BCtx (w:World) (Far:Nat→Prop) (pg ps pb sb:Nat) (a b c d e f:Int) (ha:Option Addr) (hcp:Nat) (xs:List Int):Prop where
 kg:Bk w pg #[a,b,c,d,e,f,.slice ha xs.length hcp] 28
 kr:Bk w ps #[.pointer (some ⟨sb,0,none⟩)] 32
 kb:Bk w pb #[.func (.func 93) #[] #[.pointer (some ⟨pg,0,none⟩),.pointer (some ⟨ps,0,none⟩),.pointer (some ⟨pb,0,none⟩)]] 135
 fg:Far pg
 fr:Far ps
 fb:Far pb
 sl:Sl w .i64 ha xs
 fx:xs ≠ [] → ∀ b,ha.map (·.block)=some b→Far b
theorem Sl.far {w w':World} {Far:Nat→Prop} {k:IntKind} {ha:Option Addr} {xs:List Int} (h:Sl w k ha xs) (hk:Keeps Far w w') (hf:xs ≠ [] → ∀ b,ha.map (·.block)=some b→Far b):Sl w' k ha xs:=by
 intro i x hx;obtain ⟨b,off,rfl,hc⟩:=h i x hx;refine ⟨b,off,rfl,?_⟩;have hlt:=World.block_lt_of_cell? w _ hc;rw [World.cell?_of_block (hk.block b (hf (by rintro rfl;simp at hx) b rfl) hlt)];exact hc
section
variable {w w':World} {Far Far':Nat→Prop} {pg ps pb sb:Nat} {a b c d e f:Int} {ha:Option Addr} {hcp:Nat} {xs:List Int}
theorem BCtx.far (h:BCtx w Far pg ps pb sb a b c d e f ha hcp xs) (hk:Keeps Far w w'):BCtx w' Far pg ps pb sb a b c d e f ha hcp xs :=
 ⟨h.kg.far hk h.fg,h.kr.far hk h.fr,h.kb.far hk h.fb,h.fg,h.fr,h.fb,h.sl.far hk h.fx,h.fx⟩
theorem BCtx.la (h:BCtx w Far pg ps pb sb a b c d e f ha hcp xs) (hb:Below w.heap.size w w'):BCtx w' Far pg ps pb sb a b c d e f ha hcp xs:=h.far (Keeps.below hb)
theorem BCtx.wider (h:BCtx w Far pg ps pb sb a b c d e f ha hcp xs) (hf : ∀ k,Far k→Far' k):BCtx w Far' pg ps pb sb a b c d e f ha hcp xs :=
 ⟨h.kg,h.kr,h.kb,hf _ h.fg,hf _ h.fr,hf _ h.fb,h.sl,fun hx b hb=>hf _ (h.fx hx b hb)⟩
end
theorem zBt (w:World) (Far:Nat→Prop) (pg ps pb sb:Nat) (a b c d e f:Int) (ha:Option Addr) (hcp:Nat) (xs:List Int) (HC:Bx (BCtx w Far pg ps pb sb a b c d e f ha hcp xs)) (n:Nat) (hn:n≤12) (ax ay az m:Int) (hm:m=2 ^ (n+2)) (hx:0≤ax∧ax≤16384) (hy:0≤ay∧ay≤16384) (hz:0≤az∧az≤16384) (he:zS (zn ⟨⟨ax,ay,az⟩,⟨ax+m,ay+m,az+m⟩⟩ ⟨⟨a,b,c⟩,⟨d,e,f⟩⟩)=true) (UA:Int) (ts:List Tr) (hG:Good ts) (Od:ts.length≤1000000000000) (IV : ∀ k,Far k→k<w.heap.size) (hS:StoreIs w Far sb UA ts) :
 Calls Tryz.prog 93 #[.agg #[ax,ay,az],((n:Int)+2:Int),.pointer (some ⟨pg,0,none⟩),.pointer (some ⟨ps,0,none⟩),.pointer (some ⟨pb,0,none⟩)] w (Grew Far sb UA ts (Tr.add (.uni 0) ts) (.uni 0) w):=by
 have Lw:=Bx.mk (fun W=>zDr (n+2) (by omega) ax ay az m hm (by omega) (by omega) (by omega) W)
 rw [show ((n+2:Nat):Int)=(n:Int)+2 by omega] at Lw
 have PP:=Bx.mk (fun W=>zIN ax ay az (ax+m) (ay+m) (az+m) a b c d e f W);have MX:=Bx.mk (fun W=>zU (zn ⟨⟨ax,ay,az⟩,⟨ax+m,ay+m,az+m⟩⟩ ⟨⟨a,b,c⟩,⟨d,e,f⟩⟩).lo.x (zn ⟨⟨ax,ay,az⟩,⟨ax+m,ay+m,az+m⟩⟩ ⟨⟨a,b,c⟩,⟨d,e,f⟩⟩).lo.y (zn ⟨⟨ax,ay,az⟩,⟨ax+m,ay+m,az+m⟩⟩ ⟨⟨a,b,c⟩,⟨d,e,f⟩⟩).lo.z (zn ⟨⟨ax,ay,az⟩,⟨ax+m,ay+m,az+m⟩⟩ ⟨⟨a,b,c⟩,⟨d,e,f⟩⟩).hi.x (zn ⟨⟨ax,ay,az⟩,⟨ax+m,ay+m,az+m⟩⟩ ⟨⟨a,b,c⟩,⟨d,e,f⟩⟩).hi.y (zn ⟨⟨ax,ay,az⟩,⟨ax+m,ay+m,az+m⟩⟩ ⟨⟨a,b,c⟩,⟨d,e,f⟩⟩).hi.z W);rw [show (⟨⟨(zn ⟨⟨ax,ay,az⟩,⟨ax+m,ay+m,az+m⟩⟩ ⟨⟨a,b,c⟩,⟨d,e,f⟩⟩).lo.x,(zn ⟨⟨ax,ay,az⟩,⟨ax+m,ay+m,az+m⟩⟩ ⟨⟨a,b,c⟩,⟨d,e,f⟩⟩).lo.y,(zn ⟨⟨ax,ay,az⟩,⟨ax+m,ay+m,az+m⟩⟩ ⟨⟨a,b,c⟩,⟨d,e,f⟩⟩).lo.z⟩,⟨(zn ⟨⟨ax,ay,az⟩,⟨ax+m,ay+m,az+m⟩⟩ ⟨⟨a,b,c⟩,⟨d,e,f⟩⟩).hi.x,(zn ⟨⟨ax,ay,az⟩,⟨ax+m,ay+m,az+m⟩⟩ ⟨⟨a,b,c⟩,⟨d,e,f⟩⟩).hi.y,(zn ⟨⟨ax,ay,az⟩,⟨ax+m,ay+m,az+m⟩⟩ ⟨⟨a,b,c⟩,⟨d,e,f⟩⟩).hi.z⟩⟩:Box)=zn ⟨⟨ax,ay,az⟩,⟨ax+m,ay+m,az+m⟩⟩ ⟨⟨a,b,c⟩,⟨d,e,f⟩⟩ from rfl,he] at MX;generalize zn ⟨⟨ax,ay,az⟩,⟨ax+m,ay+m,az+m⟩⟩ ⟨⟨a,b,c⟩,⟨d,e,f⟩⟩=M at *;have hu:=Bx.mk (fun W (hb:Below w.heap.size w W)=>zNx W Far sb UA ts 0 (by omega) hG Od (fun k hk=>nll (IV k hk) hb.size) (hS.la hb))
 clear he hm hx hy hz hG Od IV hS;go_enter Tryz.func93,Tryz.ntmps93;go_wp2_with fail;generalize hW:w.alloc _=W;have JE:=sz1 hW;have hB:=bl1 hW;have kp:Bk W (w.heap.size) #[ax,ay,az] 23:=bk0 hW;clear hW;refine (Lw.o _).mono ?_;rintro e1 w1 ⟨rfl,hb⟩;replace hB:=tr hB hb;replace kp:=kp.la hb;replace JE:=nlt JE hb.size;clear hb;have LS:=HC.o.la hB;have SA:=hB.size;have Tx:=Bx.mk kp;have ag : ∀ o,Bk (w1.alloc o) pg #[a,b,c,d,e,f,.slice ha xs.length hcp] 28:=fun o=>LS.kg.alloc o;have Eb : ∀ o,(w1.alloc o).cell? ⟨pg,0,none⟩=some (.int .i64 a):=fun o=>(ag o).cell 0 rfl;have Ec : ∀ o,(w1.alloc o).cell? ⟨pg,1,none⟩=some (.int .i64 b):=fun o=>(ag o).cell 1 rfl;have Ee : ∀ o,(w1.alloc o).cell? ⟨pg,2,none⟩=some (.int .i64 c):=fun o=>(ag o).cell 2 rfl;have Ef : ∀ o,(w1.alloc o).cell? ⟨pg,3,none⟩=some (.int .i64 d):=fun o=>(ag o).cell 3 rfl;have Eg : ∀ o,(w1.alloc o).cell? ⟨pg,4,none⟩=some (.int .i64 e):=fun o=>(ag o).cell 4 rfl;have Eh : ∀ o,(w1.alloc o).cell? ⟨pg,5,none⟩=some (.int .i64 f):=fun o=>(ag o).cell 5 rfl;clear ag LS;go_wp2_with fail;generalize hW2:w1.alloc _=W2;have Js:Below w1.heap.size w1 W2:=by rw [←hW2];exact zB _ _
 have kc:Bk W2 w1.heap.size #[ax,ay,az,(ax+m:Int),(ay+m:Int),(az+m:Int)] 25:=bk0 hW2 rfl;clear hW2 Eb Ec Ee Ef Eg Eh;replace Tx:=Bx.mk (Tx.o.la Js);replace hB:=tr hB Js;have NE:w.heap.size+1≤w1.heap.size:=JE;clear kp Js JE SA;generalize w1.heap.size=gc at *;refine (PP.o _).mono ?_;rintro e2 w2 ⟨rfl,hb⟩;replace kc:=kc.la hb;replace Tx:=Bx.mk (Tx.o.la hb);replace hB:=tr hB hb;clear hb;go_wp2_with fail;refine (MX.o _).mono ?_;rintro e3 w3 ⟨rfl,hb⟩;replace kc:=kc.la hb;replace Tx:=Bx.mk (Tx.o.la hb);replace hB:=tr hB hb;clear hb Lw PP MX;have IE:=HC.o.la hB;have cr:=IE.kr.cell 0 rfl;clear IE Tx;go_wp2_with fail;refine (hu.o _ hB).mono ?_;rintro e4 w4 hg;have Hg:=Bx.mk (hg.since hB);obtain ⟨-,-,(⟨hf,rfl,hs⟩ | ⟨hf,rfl,us,hs⟩)⟩:=hg
 all_goals
  clear hf hs;go_wp2_with fail
  go_ret2
  exact Hg.o
theorem zDm (ax ay az:Int):zS ⟨⟨ax,ay,az⟩,⟨ax+4,ay+4,az+4⟩⟩=false∧zz ⟨⟨ax,ay,az⟩,⟨ax+4,ay+4,az+4⟩⟩=⟨4,4,4⟩∧zAE ⟨⟨ax,ay,az⟩,⟨ax+4,ay+4,az+4⟩⟩=64:=by
 have h1:zS ⟨⟨ax,ay,az⟩,⟨ax+4,ay+4,az+4⟩⟩=false:=zT.2 (by simp only [];omega)
 have h2:zz ⟨⟨ax,ay,az⟩,⟨ax+4,ay+4,az+4⟩⟩=⟨4,4,4⟩:=by
  rw [zAA h1];simp only [Pt.sub,Pt.mk.injEq];omega
 exact ⟨h1,h2,by unfold zAE;rw [h2];decide⟩
theorem zCd (ax ay az:Int) (f:Pt→Int):cellsOf ⟨⟨ax,ay,az⟩,⟨ax+4,ay+4,az+4⟩⟩ f=(List.range 64).map fun k=>f (Tr.cellAt ⟨ax,ay,az⟩ k):=by
 obtain ⟨h1,h2,h3⟩:=zDm ax ay az;unfold cellsOf;rw [h3];apply List.map_congr_left;intro k hk;have hk':k<64:=by simpa using hk
 congr 1
 unfold atB Tr.cellAt;rw [h3,h2,if_pos (by omega)]
 simp only [Pt.mk.injEq];omega
structure GoodH (b:Box) (xs:List Int) (hcp:Nat):Prop where
 small:Small b 1048575
 len:xs.length=(zAE b).toNat
 le:xs.length≤5000
 cells : ∀ x∈xs,0≤x∧x≤255
 cap:xs.length≤hcp
theorem GoodH.range {b:Box} {xs:List Int} {hcp:Nat} (h:GoodH b xs hcp) (p:Pt):0≤zE b xs p∧zE b xs p≤255:=by
 unfold zE;split
 · rename_i hp;have hi:=zf hp;have hl:=h.len;have hlt:(ze b p).toNat<xs.length:=by omega
   rw [Tr.getD_el hlt];exact h.cells _ (List.getElem_mem _)
 · omega
structure GoodG (b:Box) (xs:List Int) (hcp:Nat):Prop where
 small:Small b 1048575
 len:xs.length=(zAE b).toNat
 le:xs.length≤300
 cells : ∀ x∈xs,0≤x∧x≤255
 cap:xs.length≤hcp
theorem GoodG.toH {b:Box} {xs:List Int} {hcp:Nat} (h:GoodG b xs hcp):GoodH b xs hcp:=⟨h.small,h.len,nlt h.le (by decide),h.cells,h.cap⟩
theorem GoodG.range {b:Box} {xs:List Int} {hcp:Nat} (h:GoodG b xs hcp) (p:Pt):0≤zE b xs p∧zE b xs p≤255:=h.toH.range p
instance (b:Box) (xs:List Int) (hcp:Nat):Coe (GoodG b xs hcp) (GoodH b xs hcp):=⟨GoodG.toH⟩
theorem zBs (w:World) (Far:Nat→Prop) (pg ps pb sb:Nat) (a b c d e f:Int) (ha:Option Addr) (hcp:Nat) (xs:List Int) (HC:Bx (BCtx w Far pg ps pb sb a b c d e f ha hcp xs)) (HX:GoodH ⟨⟨a,b,c⟩,⟨d,e,f⟩⟩ xs hcp) (ax ay az:Int) (hx:0≤ax∧ax≤16384) (hy:0≤ay∧ay≤16384) (hz:0≤az∧az≤16384) (he:zS (zn ⟨⟨ax,ay,az⟩,⟨ax+4,ay+4,az+4⟩⟩ ⟨⟨a,b,c⟩,⟨d,e,f⟩⟩)=false) (UA:Int) (ts:List Tr) (hG:Good ts) (Od:ts.length≤1000000000000) (IV : ∀ k,Far k→k<w.heap.size) (hS:StoreIs w Far sb UA ts) :
 Calls Tryz.prog 93 #[.agg #[ax,ay,az],(2:Int),.pointer (some ⟨pg,0,none⟩),.pointer (some ⟨ps,0,none⟩),.pointer (some ⟨pb,0,none⟩)] w (Grew Far sb UA ts (Tr.add (Tr.can (zE ⟨⟨a,b,c⟩,⟨d,e,f⟩⟩ xs) 0 ⟨ax,ay,az⟩) ts) (Tr.can (zE ⟨⟨a,b,c⟩,⟨d,e,f⟩⟩ xs) 0 ⟨ax,ay,az⟩) w):=by
 have Lw:=Bx.mk (fun W=>zDr 2 (by omega) ax ay az 4 (by decide) (by omega) (by omega) (by omega) W)
 rw [show ((2:Nat):Int)=2 from rfl] at Lw;have PP:=Bx.mk (fun W=>zIN ax ay az (ax+4) (ay+4) (az+4) a b c d e f W);have MX:=Bx.mk (fun W=>zU (zn ⟨⟨ax,ay,az⟩,⟨ax+4,ay+4,az+4⟩⟩ ⟨⟨a,b,c⟩,⟨d,e,f⟩⟩).lo.x (zn ⟨⟨ax,ay,az⟩,⟨ax+4,ay+4,az+4⟩⟩ ⟨⟨a,b,c⟩,⟨d,e,f⟩⟩).lo.y (zn ⟨⟨ax,ay,az⟩,⟨ax+4,ay+4,az+4⟩⟩ ⟨⟨a,b,c⟩,⟨d,e,f⟩⟩).lo.z (zn ⟨⟨ax,ay,az⟩,⟨ax+4,ay+4,az+4⟩⟩ ⟨⟨a,b,c⟩,⟨d,e,f⟩⟩).hi.x (zn ⟨⟨ax,ay,az⟩,⟨ax+4,ay+4,az+4⟩⟩ ⟨⟨a,b,c⟩,⟨d,e,f⟩⟩).hi.y (zn ⟨⟨ax,ay,az⟩,⟨ax+4,ay+4,az+4⟩⟩ ⟨⟨a,b,c⟩,⟨d,e,f⟩⟩).hi.z W);rw [show (⟨⟨(zn ⟨⟨ax,ay,az⟩,⟨ax+4,ay+4,az+4⟩⟩ ⟨⟨a,b,c⟩,⟨d,e,f⟩⟩).lo.x,(zn ⟨⟨ax,ay,az⟩,⟨ax+4,ay+4,az+4⟩⟩ ⟨⟨a,b,c⟩,⟨d,e,f⟩⟩).lo.y,(zn ⟨⟨ax,ay,az⟩,⟨ax+4,ay+4,az+4⟩⟩ ⟨⟨a,b,c⟩,⟨d,e,f⟩⟩).lo.z⟩,⟨(zn ⟨⟨ax,ay,az⟩,⟨ax+4,ay+4,az+4⟩⟩ ⟨⟨a,b,c⟩,⟨d,e,f⟩⟩).hi.x,(zn ⟨⟨ax,ay,az⟩,⟨ax+4,ay+4,az+4⟩⟩ ⟨⟨a,b,c⟩,⟨d,e,f⟩⟩).hi.y,(zn ⟨⟨ax,ay,az⟩,⟨ax+4,ay+4,az+4⟩⟩ ⟨⟨a,b,c⟩,⟨d,e,f⟩⟩).hi.z⟩⟩:Box)=zn ⟨⟨ax,ay,az⟩,⟨ax+4,ay+4,az+4⟩⟩ ⟨⟨a,b,c⟩,⟨d,e,f⟩⟩ from rfl,he] at MX;generalize zn ⟨⟨ax,ay,az⟩,⟨ax+4,ay+4,az+4⟩⟩ ⟨⟨a,b,c⟩,⟨d,e,f⟩⟩=M at *;obtain ⟨q1,q2,q3⟩:=zDm ax ay az
 have hE:zIj ⟨⟨ax,ay,az⟩,⟨ax+4,ay+4,az+4⟩⟩ 0=0:=by
  unfold zIj
  have QE:okB ⟨⟨ax,ay,az⟩,⟨ax+4,ay+4,az+4⟩⟩=true:=by
   unfold okB;rw [Bool.and_eq_true];exact ⟨zJK.2 (by simp only [];omega),zJK.2 (by simp only [];omega)⟩
  rw [if_neg (by rw [QE];simp [Pal.cell]),if_neg (by rw [q3];omega)]
 have LD:Tr.can (zE ⟨⟨a,b,c⟩,⟨d,e,f⟩⟩ xs) 0 ⟨ax,ay,az⟩=Tr.mkBrick (cellsOf ⟨⟨ax,ay,az⟩,⟨ax+4,ay+4,az+4⟩⟩ (zE ⟨⟨a,b,c⟩,⟨d,e,f⟩⟩ xs)):=by
  rw [zCd];rfl
 rw [LD];have TY:(cellsOf ⟨⟨ax,ay,az⟩,⟨ax+4,ay+4,az+4⟩⟩ (zE ⟨⟨a,b,c⟩,⟨d,e,f⟩⟩ xs)).length=64:=by rw [zK,q3];rfl
 have LQ:(cellsOf ⟨⟨ax,ay,az⟩,⟨ax+4,ay+4,az+4⟩⟩ (zE ⟨⟨a,b,c⟩,⟨d,e,f⟩⟩ xs)).all Pal.cell=true:=by
  rw [List.all_eq_true];intro x hx;unfold cellsOf at hx;obtain ⟨k,_,rfl⟩:=List.mem_map.1 hx;have:=HX.range (atB ⟨⟨ax,ay,az⟩,⟨ax+4,ay+4,az+4⟩⟩ (k:Int));rw [Pal.cell_eq];simpa using this
 have Lq:=Bx.mk (fun W h=>zDj ax ay az (ax+4) (ay+4) (az+4) a b c d e f ha hcp 64 xs hE q1 q3 HX.small HX.len (by have:=HX.le;omega) HX.cap W h)
 unfold RetG at Lq;rw [TY] at Lq;have hu:=Bx.mk (fun W (hb:Below w.heap.size w W) pa pc Rn=>zBp W Far sb UA ts pa pc (cellsOf ⟨⟨ax,ay,az⟩,⟨ax+4,ay+4,az+4⟩⟩ (zE ⟨⟨a,b,c⟩,⟨d,e,f⟩⟩ xs)) TY LQ Rn hG Od (fun k hk=>nll (IV k hk) hb.size) (hS.la hb));clear he hx hy hz hG Od IV hS hE LD TY LQ q1 q2 q3 HX;generalize cellsOf ⟨⟨ax,ay,az⟩,⟨ax+4,ay+4,az+4⟩⟩ (zE ⟨⟨a,b,c⟩,⟨d,e,f⟩⟩ xs)=zs at *;go_enter Tryz.func93,Tryz.ntmps93;go_wp2_with fail;generalize hW:w.alloc _=W;have JE:=sz1 hW;have hB:=bl1 hW;have kp:Bk W (w.heap.size) #[ax,ay,az] 23:=bk0 hW;clear hW;refine (Lw.o _).mono ?_;rintro e1 w1 ⟨rfl,hb⟩;replace hB:=tr hB hb;replace kp:=kp.la hb;replace JE:=nlt JE hb.size;clear hb;have LS:=HC.o.la hB;have SA:=hB.size;have Tx:=Bx.mk kp;have ag : ∀ o,Bk (w1.alloc o) pg #[a,b,c,d,e,f,.slice ha xs.length hcp] 28:=fun o=>LS.kg.alloc o;have Eb : ∀ o,(w1.alloc o).cell? ⟨pg,0,none⟩=some (.int .i64 a):=fun o=>(ag o).cell 0 rfl;have Ec : ∀ o,(w1.alloc o).cell? ⟨pg,1,none⟩=some (.int .i64 b):=fun o=>(ag o).cell 1 rfl;have Ee : ∀ o,(w1.alloc o).cell? ⟨pg,2,none⟩=some (.int .i64 c):=fun o=>(ag o).cell 2 rfl;have Ef : ∀ o,(w1.alloc o).cell? ⟨pg,3,none⟩=some (.int .i64 d):=fun o=>(ag o).cell 3 rfl;have Eg : ∀ o,(w1.alloc o).cell? ⟨pg,4,none⟩=some (.int .i64 e):=fun o=>(ag o).cell 4 rfl;have Eh : ∀ o,(w1.alloc o).cell? ⟨pg,5,none⟩=some (.int .i64 f):=fun o=>(ag o).cell 5 rfl;clear ag LS;go_wp2_with fail;generalize hW2:w1.alloc _=W2;have Js:Below w1.heap.size w1 W2:=by rw [←hW2];exact zB _ _
 have kc:Bk W2 w1.heap.size #[ax,ay,az,(ax+4:Int),(ay+4:Int),(az+4:Int)] 25:=bk0 hW2 rfl;clear hW2 Eb Ec Ee Ef Eg Eh;replace Tx:=Bx.mk (Tx.o.la Js);replace hB:=tr hB Js;have NE:w.heap.size+1≤w1.heap.size:=JE;clear kp Js JE SA;generalize w1.heap.size=gc at *;refine (PP.o _).mono ?_;rintro e2 w2 ⟨rfl,hb⟩;replace kc:=kc.la hb;replace Tx:=Bx.mk (Tx.o.la hb);replace hB:=tr hB hb;clear hb;go_wp2_with fail;refine (MX.o _).mono ?_;rintro e3 w3 ⟨rfl,hb⟩;replace kc:=kc.la hb;replace Tx:=Bx.mk (Tx.o.la hb);replace hB:=tr hB hb;clear hb Lw PP MX;have IE:=HC.o.la hB;have cr:=IE.kr.cell 0 rfl;have Rq:=Bx.mk IE.sl;have F4:w3.cell? ⟨pg,0,none⟩=some (.int .i64 a):=IE.kg.cell 0 rfl;have F5:w3.cell? ⟨pg,1,none⟩=some (.int .i64 b):=IE.kg.cell 1 rfl;have F6:w3.cell? ⟨pg,2,none⟩=some (.int .i64 c):=IE.kg.cell 2 rfl;have F7:w3.cell? ⟨pg,3,none⟩=some (.int .i64 d):=IE.kg.cell 3 rfl;have F8:w3.cell? ⟨pg,4,none⟩=some (.int .i64 e):=IE.kg.cell 4 rfl;have F9:w3.cell? ⟨pg,5,none⟩=some (.int .i64 f):=IE.kg.cell 5 rfl;have FA:w3.cell? ⟨pg,6,none⟩=some (.slice ha xs.length hcp):=IE.kg.cell 6 rfl;obtain ⟨cc0,cc1,cc2,cc3,cc4,cc5⟩:=kc.c6;have IE:=Bx.mk IE;go_wp2_with fail;refine (Lq.o _ Rq.o).mono ?_;rintro e4 w4 ⟨pa,pc,rfl,QQ,hb⟩;have I4:=Bx.mk (tr hB hb);have IF:=HC.o.la I4.o;have Rr:=QQ.sl;have QQ:=Bx.mk QQ;have Lp:=Bx.mk IF.kr;have R7:w4.cell? ⟨ps,0,none⟩=some (.pointer (some ⟨sb,0,none⟩)):=Lp.o.cell 0 rfl;have ar0 : ∀ o,(w4.alloc o).cell? ⟨ps,0,none⟩=some (.pointer (some ⟨sb,0,none⟩)):=fun o=>(Lp.o.alloc o).cell 0 rfl;have Rs:Bx (∀ o,Sl (w4.alloc o) .i64 pa zs):=⟨fun o=>Rr.below (zB _ _)⟩;clear hb IF Rr F4 F5 F6 F7 F8 F9 FA cc0 cc1 cc2 cc3 cc4 cc5 cr IE kc Rq Lq;go_wp2_with fail;refine (hu.o _ (I4.o.trans ((zB _ _).mono I4.o.size)) pa pc (Rs.o _)).mono ?_;rintro e5 w5 hg;have Hg:=Bx.mk (hg.since (I4.o.trans ((zB _ _).mono I4.o.size)));obtain ⟨-,-,(⟨hf,rfl,hs⟩ | ⟨hf,rfl,us,hs⟩)⟩:=hg
 all_goals
  clear hf hs;go_wp2_with fail
  go_ret2
  exact Hg.o
end
section
open Go.RowKit Go.Sort Go.Maps
open Oct
attribute [local go_sem ↓] Go.wp_at_zero Go.wp_at_succ
structure Ended (Far:Nat→Prop) (sb:Nat) (UA:Int) (ts ts':List Tr) (t:Tr) (i er:Int) (w':World):Prop where
 way:(er=0∧Tr.Fits UA ts ts'∧i=(idT ts' t:Int)∧StoreIs w' Far sb UA ts')∨(er=14∧i=0 ∧ ¬Tr.Fits UA ts ts' ∧ ∃ us,Good us∧ts <+: us∧us <+: ts'∧StoreIs w' Far sb UA us)
theorem Grew.ends {Far:Nat→Prop} {sb:Nat} {UA:Int} {ts ts':List Tr} {t:Tr} {w w':World} {e:Ending} (h:Grew Far sb UA ts ts' t w e w') : ∃ i er:Int,e=zLY i er∧Ended Far sb UA ts ts' t i er w':=by
 rcases h.way with ⟨h1,h2,h3⟩ | ⟨h1,h2,h3⟩
 · exact ⟨_,_,h2,⟨.inl ⟨rfl,h1,rfl,h3⟩⟩⟩
 · exact ⟨_,_,h2,⟨.inr ⟨rfl,rfl,h1,h3⟩⟩⟩
theorem StoreIs.less {w:World} {Far Far':Nat→Prop} {sb:Nat} {UA:Int} {ts:List Tr} (h:StoreIs w Far' sb UA ts) (hf : ∀ k,Far k→Far' k):StoreIs w Far sb UA ts:=h.widen (fun k hk=>.inl (hf k hk))
theorem Keeps.less {Far Far':Nat→Prop} {a b:World} (h:Keeps Far' a b) (hf : ∀ k,Far k→Far' k):Keeps Far a b:=h.narrow (fun k hk _=>hf k hk)
structure LI (Far:Nat→Prop) (pg ps pb sb:Nat) (a b c d e f:Int) (ha:Option Addr) (hcp:Nat) (xs:List Int) (UA:Int) (ts:List Tr) (ch:Nat→Tr) (p0 gk:Nat) (ax ay az:Int) (w:World) (k:Nat) (wr:World):Prop where
 ctx:BCtx wr (fun x=>Far x∨(p0≤x∧x≤gk)) pg ps pb sb a b c d e f ha hcp xs
 store:StoreIs wr (fun x=>Far x∨(p0≤x∧x≤gk)) sb UA (Tr.addK (fun i=>ch i.val) k ts)
 fits:Tr.Fits UA ts (Tr.addK (fun i=>ch i.val) k ts)
 row:wr.rowIs gk 108 8 (fun j=>.int .i64 (if j<k then (idT (Tr.addK (fun i=>ch i.val) k ts) (ch j):Int) else 0))
 kp:Bk wr p0 #[ax,ay,az] 23
 keeps:Keeps Far w wr
 size:gk<wr.heap.size
theorem zLh {w w':World} {Far:Nat→Prop} {g:Nat} {t:TypeId} {n:Nat} {F:Nat→Value} (h:w.rowIs g t n F) (hk:Keeps Far w w') (hf:Far g):w'.rowIs g t n F:=h.of_block (hk.block g hf h.lt)
theorem StoreIs.apart {w w':World} {Far:Nat→Prop} {sb g:Nat} {UA:Int} {ts:List Tr} (h:StoreIs w Far sb UA ts) (hg:w.grownBy w' (some g)) (hf:Far g):StoreIs w' Far sb UA ts:=by
 obtain ⟨mb,nv,h1,h2,h3,P⟩:=h.parts;exact StoreIs.of (h1.grownO hg (fun e=>by injection e with e;exact P.fs (e ▸ hf))) (World.ownsRow.kept h2 hg (.inr (fun e=>P.fn g e hf))) (h3.kept hg (fun e=>by injection e with e;exact P.fm (e ▸ hf))) P
theorem BCtx.apart {w w':World} {Far:Nat→Prop} {pg ps pb sb g:Nat} {a b c d e f:Int} {ha:Option Addr} {hcp:Nat} {xs:List Int} (h:BCtx w Far pg ps pb sb a b c d e f ha hcp xs) (hg:w.grownBy w' (some g)) (h1:g ≠ pg) (h2:g ≠ ps) (h3:g ≠ pb) (h4:xs ≠ [] → ∀ b,ha.map (·.block)=some b→b ≠ g):BCtx w' Far pg ps pb sb a b c d e f ha hcp xs:=by
 refine ⟨h.kg.grownO hg (by simpa using h1),h.kr.grownO hg (by simpa using h2),h.kb.grownO hg (by simpa using h3),h.fg,h.fr,h.fb,fun i x hx=>?_,h.fx⟩
 obtain ⟨b,off,rfl,hc⟩:=h.sl i x hx;refine ⟨b,off,rfl,hg.cell hc ?_⟩;simpa using h4 (by rintro rfl;simp at hx) b rfl
theorem zHs {w wr w4 w5:World} {Far:Nat→Prop} {pg ps pb sb:Nat} {a b c d e f:Int} {ha:Option Addr} {hcp:Nat} {xs:List Int} {UA:Int} {ts:List Tr} {ch:Nat→Tr} {gk k:Nat} {ax ay az:Int} (HC:BCtx w Far pg ps pb sb a b c d e f ha hcp xs) (HF : ∀ k,Far k→k<w.heap.size) (hk:k<8) (NJ:w.heap.size<gk)
 (hI:LI Far pg ps pb sb a b c d e f ha hcp xs UA ts ch w.heap.size gk ax ay az w k wr) (hb:Below wr.heap.size wr w4) (OQ:Keeps (fun x=>Far x∨(w.heap.size≤x∧x≤gk)) w4 w5)
 (hf:Tr.Fits UA (Tr.addK (fun i=>ch i.val) k ts) (Tr.addK (fun i=>ch i.val) (k+1) ts)) (hs:StoreIs w5 (fun x=>Far x∨(w.heap.size≤x∧x≤gk)) sb UA (Tr.addK (fun i=>ch i.val) (k+1) ts)) :
 LI Far pg ps pb sb a b c d e f ha hcp xs UA ts ch w.heap.size gk ax ay az w (k+1) (w5.setCell ⟨gk,k,none⟩ (.int .i64 (idT (Tr.addK (fun i=>ch i.val) (k+1) ts) (ch k):Int))):=by
 have hg:=zX w5 ⟨gk,k,none⟩ (.int .i64 (idT (Tr.addK (fun i=>ch i.val) (k+1) ts) (ch k):Int));have QZ:=Tr.addK_prefix (fun i:Fin 8=>ch i.val) k (by omega) ts
 have Qb:Tr.addK (fun i:Fin 8=>ch i.val) k ts <+: Tr.addK (fun i:Fin 8=>ch i.val) (k+1) ts:=zAn (by omega) (by omega)
 have Mi : ∀ x,Far x→gk ≠ x:=fun x hx e=>by have:=HF x hx;omega
 have Mo:(fun x=>Far x∨(w.heap.size≤x∧x≤gk)) gk:=.inr ⟨by omega,nlr⟩
 refine ⟨((hI.ctx.la hb).far OQ).apart hg (Mi _ HC.fg) (Mi _ HC.fr) (Mi _ HC.fb) (fun hx b hb=>Ne.symm (Mi _ (HC.fx hx b hb))),hs.apart hg Mo,Tr.fits_trans QZ Qb hI.fits hf,?_,?_,?_,?_⟩
 · refine ((zLh (hI.row.of_block (hb.block gk hI.size)) OQ Mo).set k _).congr (fun j hj=>?_);by_cases e:j=k
   · subst e;rw [if_pos rfl,if_pos (by omega)]
   · rw [if_neg e];by_cases h5:j<k
     · rw [if_pos h5,if_pos (by omega)]
       have hm:=Tr.addK_mem (fun i:Fin 8=>ch i.val) ts k (by omega) ⟨j,hj⟩ h5
       have:=zZ Qb hm;simp only at this;rw [this]
     · rw [if_neg h5,if_neg (by omega)]
 · exact ((hI.kp.la hb).far OQ (.inr ⟨Nat.le_refl _,by omega⟩)).grownO hg (by simp;omega)
 · exact ((hI.keeps.trans (Keeps.below hb)).trans (OQ.less (fun k hk=>.inl hk))).trans (Keeps.grown hg (fun g e hx=>by injection e with e;exact Mi _ hx e))
 · have h1:=hb.size;have h2:=OQ.size;have h3:=hI.size;rw [zMM];omega
theorem zBu (w:World) (Far:Nat→Prop) (pg ps pb sb:Nat) (a b c d e f:Int) (ha:Option Addr) (hcp:Nat) (xs:List Int) (HC:Bx (BCtx w Far pg ps pb sb a b c d e f ha hcp xs)) (n:Nat) (hn:n≤11) (ax ay az m h2:Int) (hm:m=2 ^ (n+3)) (hh:h2=2 ^ (n+2)) (hx:0≤ax∧ax≤16384) (hy:0≤ay∧ay≤16384) (hz:0≤az∧az≤16384) (he:zS (zn ⟨⟨ax,ay,az⟩,⟨ax+m,ay+m,az+m⟩⟩ ⟨⟨a,b,c⟩,⟨d,e,f⟩⟩)=false) (UA:Int) (ts:List Tr) (ch:Nat→Tr) (hW : ∀ i,Tr.WF (ch i))
 (IH:Bx (∀ (W:World) (Far':Nat→Prop) (us:List Tr) (i:Nat),i<8→BCtx W Far' pg ps pb sb a b c d e f ha hcp xs→Good us→(Tr.add (ch i) us).length≤1000000000000→(∀ k,Far' k→k<W.heap.size)→StoreIs W Far' sb UA us→Calls Tryz.prog 93 #[.agg #[(ax+chX i h2:Int),(ay+chY i h2:Int),(az+chZ i h2:Int)],((n:Int)+2:Int),.pointer (some ⟨pg,0,none⟩),.pointer (some ⟨ps,0,none⟩),.pointer (some ⟨pb,0,none⟩)] W (Grew Far' sb UA us (Tr.add (ch i) us) (ch i) W)))
 (hG:Good ts) (Od:(Tr.add (Tr.mkInner (n+3) (fun i=>ch i.val)) ts).length≤1000000000000) (IV : ∀ k,Far k→k<w.heap.size) (hS:StoreIs w Far sb UA ts) :
 Calls Tryz.prog 93 #[.agg #[ax,ay,az],((n:Int)+3:Int),.pointer (some ⟨pg,0,none⟩),.pointer (some ⟨ps,0,none⟩),.pointer (some ⟨pb,0,none⟩)] w (Grew Far sb UA ts (Tr.add (Tr.mkInner (n+3) (fun i=>ch i.val)) ts) (Tr.mkInner (n+3) (fun i=>ch i.val)) w):=by
 have Lw:=Bx.mk (fun W=>zDr (n+3) (by omega) ax ay az m hm (by omega) (by omega) (by omega) W)
 rw [show ((n+3:Nat):Int)=(n:Int)+3 by omega] at Lw
 have PP:=Bx.mk (fun W=>zIN ax ay az (ax+m) (ay+m) (az+m) a b c d e f W);have MX:=Bx.mk (fun W=>zU (zn ⟨⟨ax,ay,az⟩,⟨ax+m,ay+m,az+m⟩⟩ ⟨⟨a,b,c⟩,⟨d,e,f⟩⟩).lo.x (zn ⟨⟨ax,ay,az⟩,⟨ax+m,ay+m,az+m⟩⟩ ⟨⟨a,b,c⟩,⟨d,e,f⟩⟩).lo.y (zn ⟨⟨ax,ay,az⟩,⟨ax+m,ay+m,az+m⟩⟩ ⟨⟨a,b,c⟩,⟨d,e,f⟩⟩).lo.z (zn ⟨⟨ax,ay,az⟩,⟨ax+m,ay+m,az+m⟩⟩ ⟨⟨a,b,c⟩,⟨d,e,f⟩⟩).hi.x (zn ⟨⟨ax,ay,az⟩,⟨ax+m,ay+m,az+m⟩⟩ ⟨⟨a,b,c⟩,⟨d,e,f⟩⟩).hi.y (zn ⟨⟨ax,ay,az⟩,⟨ax+m,ay+m,az+m⟩⟩ ⟨⟨a,b,c⟩,⟨d,e,f⟩⟩).hi.z W);rw [show (⟨⟨(zn ⟨⟨ax,ay,az⟩,⟨ax+m,ay+m,az+m⟩⟩ ⟨⟨a,b,c⟩,⟨d,e,f⟩⟩).lo.x,(zn ⟨⟨ax,ay,az⟩,⟨ax+m,ay+m,az+m⟩⟩ ⟨⟨a,b,c⟩,⟨d,e,f⟩⟩).lo.y,(zn ⟨⟨ax,ay,az⟩,⟨ax+m,ay+m,az+m⟩⟩ ⟨⟨a,b,c⟩,⟨d,e,f⟩⟩).lo.z⟩,⟨(zn ⟨⟨ax,ay,az⟩,⟨ax+m,ay+m,az+m⟩⟩ ⟨⟨a,b,c⟩,⟨d,e,f⟩⟩).hi.x,(zn ⟨⟨ax,ay,az⟩,⟨ax+m,ay+m,az+m⟩⟩ ⟨⟨a,b,c⟩,⟨d,e,f⟩⟩).hi.y,(zn ⟨⟨ax,ay,az⟩,⟨ax+m,ay+m,az+m⟩⟩ ⟨⟨a,b,c⟩,⟨d,e,f⟩⟩).hi.z⟩⟩:Box)=zn ⟨⟨ax,ay,az⟩,⟨ax+m,ay+m,az+m⟩⟩ ⟨⟨a,b,c⟩,⟨d,e,f⟩⟩ from rfl,he] at MX;generalize zn ⟨⟨ax,ay,az⟩,⟨ax+m,ay+m,az+m⟩⟩ ⟨⟨a,b,c⟩,⟨d,e,f⟩⟩=M at *;have Lk:=Bx.mk (fun W i hi=>zDd (n+2) (by omega) ax ay az i hi (by omega) (by omega) (by omega) W)
 rw [show ((n+2+1:Nat):Int)=(n:Int)+3 by omega,←hh] at Lk
 have hd:(((n:Int)+3) == 2)=false:=by simp;omega
 have HG:=Bx.mk hG;have HW:=Bx.mk hW;have HL:=Bx.mk Od;have HF:=Bx.mk IV;have HS:=Bx.mk hS;clear he hx hy hz hG Od IV hS hm hh hW;go_enter Tryz.func93,Tryz.ntmps93;go_wp2_with fail;generalize hW:w.alloc _=W;have JE:=sz1 hW;have hB:=bl1 hW;have kp:Bk W (w.heap.size) #[ax,ay,az] 23:=bk0 hW;clear hW;refine (Lw.o _).mono ?_;rintro e1 w1 ⟨rfl,hb⟩;replace hB:=tr hB hb;replace kp:=kp.la hb;replace JE:=nlt JE hb.size;clear hb;have LS:=HC.o.la hB;have SA:=hB.size;have Tx:=Bx.mk kp;have ag : ∀ o,Bk (w1.alloc o) pg #[a,b,c,d,e,f,.slice ha xs.length hcp] 28:=fun o=>LS.kg.alloc o;have Eb : ∀ o,(w1.alloc o).cell? ⟨pg,0,none⟩=some (.int .i64 a):=fun o=>(ag o).cell 0 rfl;have Ec : ∀ o,(w1.alloc o).cell? ⟨pg,1,none⟩=some (.int .i64 b):=fun o=>(ag o).cell 1 rfl;have Ee : ∀ o,(w1.alloc o).cell? ⟨pg,2,none⟩=some (.int .i64 c):=fun o=>(ag o).cell 2 rfl;have Ef : ∀ o,(w1.alloc o).cell? ⟨pg,3,none⟩=some (.int .i64 d):=fun o=>(ag o).cell 3 rfl;have Eg : ∀ o,(w1.alloc o).cell? ⟨pg,4,none⟩=some (.int .i64 e):=fun o=>(ag o).cell 4 rfl;have Eh : ∀ o,(w1.alloc o).cell? ⟨pg,5,none⟩=some (.int .i64 f):=fun o=>(ag o).cell 5 rfl;clear ag LS;go_wp2_with fail;generalize hW2:w1.alloc _=W2;have Js:Below w1.heap.size w1 W2:=by rw [←hW2];exact zB _ _
 have kc:Bk W2 w1.heap.size #[ax,ay,az,(ax+m:Int),(ay+m:Int),(az+m:Int)] 25:=bk0 hW2 rfl;clear hW2 Eb Ec Ee Ef Eg Eh;replace Tx:=Bx.mk (Tx.o.la Js);replace hB:=tr hB Js;have NE:w.heap.size+1≤w1.heap.size:=JE;clear kp Js JE SA;generalize w1.heap.size=gc at *;refine (PP.o _).mono ?_;rintro e2 w2 ⟨rfl,hb⟩;replace kc:=kc.la hb;replace Tx:=Bx.mk (Tx.o.la hb);replace hB:=tr hB hb;clear hb;go_wp2_with fail;refine (MX.o _).mono ?_;rintro e3 w3 ⟨rfl,hb⟩;replace kc:=kc.la hb;replace Tx:=Bx.mk (Tx.o.la hb);replace hB:=tr hB hb;clear hb Lw PP MX;have IE:=HC.o.la hB;replace IE:=Bx.mk IE;clear kc;go_wp2_with fail;generalize hW4:w3.alloc _=W4;have Jz:Below w3.heap.size w3 W4:=by rw [←hW4];exact zB _ _
 have RK:Bx (W4.rowIs w3.heap.size 108 8 (fun j=>.int .i64 (if j<0 then (idT (Tr.addK (fun i=>ch i.val) 0 ts) (ch j):Int) else 0))):=⟨by
  rw [←hW4];refine World.rowIs_alloc w3 _ _ _ (fun i hi=>?_);have Nh:i<8:=hi;rcases i with _ | _ | _ | _ | _ | _ | _ | _ | i
  all_goals first | rfl | omega⟩
 have RZ:W4.heap.size=w3.heap.size+1:=by rw [←hW4];simp
 have I4:Below w.heap.size w W4:=tr hB Jz;have NJ:w.heap.size<w3.heap.size:=Tx.o.lt;clear hW4
 have HI:Bx (LI Far pg ps pb sb a b c d e f ha hcp xs UA ts ch w.heap.size w3.heap.size ax ay az w 0 W4):=⟨by
  refine ⟨(IE.o.la Jz).wider (fun k hk=>.inl hk),?_,.inl rfl,RK.o,Tx.o.la Jz,Keeps.below I4,by omega⟩
  refine (HS.o.widen (Far':=fun x=>Far x∨(w.heap.size≤x∧x≤w3.heap.size)) (fun k hk=>hk.imp id (fun h=>h.1))).la I4⟩
 have A7:=Bx.mk I4;clear Jz RK hB I4 IE Tx NE;generalize w3.heap.size=gk at *
 go_loopw [42] (fun i wr => ∃ k:Nat,k≤8∧i = .int .i64 k∧Bx (LI Far pg ps pb sb a b c d e f ha hcp xs UA ts ch w.heap.size gk ax ay az w k wr)) (fun i _=>8 - (intOf i).toNat)
 case atStart=>exact ⟨0,Nat.zero_le _,rfl,HI⟩
 case round =>
  clear HI A7 RZ;obtain ⟨k,hk,rfl,hI⟩:=hrel;by_cases hlt:k<8
  · have S7:Tr.addK (fun i:Fin 8=>ch i.val) (k+1) ts=Tr.add (ch k) (Tr.addK (fun i:Fin 8=>ch i.val) k ts):=Tr.addK_succ _ hlt _;have Ic:Good (Tr.addK (fun i=>ch i.val) k ts):=zFo HG.o (fun i=>HW.o _) k hk;have OZ:=(zAn (ch:=fun i:Fin 8=>ch i.val) (ts:=ts) (show k+1≤8 by omega) nlr).length_le
    have Oa:=(zGo (d:=n+3) (ch:=fun i:Fin 8=>ch i.val) HG.o).length_le;have Ig:=Bx.mk (fun W (hb:Below wr.heap.size wr W)=>IH.o W (fun x=>Far x∨(w.heap.size≤x∧x≤gk)) (Tr.addK (fun i=>ch i.val) k ts) k hlt (hI.o.ctx.la hb) Ic (by have:=HL.o;rw [←S7];omega) (fun x hx=>by have h1:=hI.o.size;have h2:=hb.size;have h3:=hI.o.keeps.size;rcases hx with hx | hx;exact Nat.lt_of_lt_of_le (HF.o x hx) (Nat.le_trans h3 h2);omega) (hI.o.store.la hb))
    rw [←S7] at Ig;replace S7:=Bx.mk S7;clear Ic OZ Oa;have Ev:wr.cell? ⟨pb,0,none⟩=some (.func (.func 93) #[] #[.pointer (some ⟨pg,0,none⟩),.pointer (some ⟨ps,0,none⟩),.pointer (some ⟨pb,0,none⟩)]):=hI.o.ctx.kb.cell 0 rfl;have S8:IntKind.i64.wrap ((n:Int)+3 - 1)=(n:Int)+2:=by rw [show (n:Int)+3 - 1=(n:Int)+2 by omega];exact wj _ (by omega)
    obtain ⟨cp0,cp1,cp2⟩:=hI.o.kp.c3;go_wp2_with fail
    go_region_held3 (fun w'=>w'.cell? ⟨pb,0,none⟩=some (.func (.func 93) #[] #[.pointer (some ⟨pg,0,none⟩),.pointer (some ⟨ps,0,none⟩),.pointer (some ⟨pb,0,none⟩)])∧w'.cell? ⟨w.heap.size,0,none⟩=some (.int .i64 ax)∧w'.cell? ⟨w.heap.size,1,none⟩=some (.int .i64 ay)∧w'.cell? ⟨w.heap.size,2,none⟩=some (.int .i64 az))
     (first | go_keep | (dsimp only;and_intros <;> assumption))
     (first
      | (go_at_call 93;refine (Ig.o _ I4).mono ?_;rintro e5 w5 hg;obtain ⟨id,er,rfl,RD⟩:=hg.ends;have OQ:=hg.keeps;have Ly:=(hI.o.ctx.la I4).far OQ;have Tz:=(hI.o.kp.la I4).far OQ (.inr ⟨nlr,by omega⟩);have Ex:=Ly.kb.cell 0 rfl;have Eo:=Tz.cell 0 rfl;have Ep:=Tz.cell 1 rfl;have Er:=Tz.cell 2 rfl)
      | (go_at_call 95;refine (Lk.o _ k hlt).mono ?_;rintro e4 w4 ⟨rfl,Jz⟩;have I4:=(Below.refl wr.heap.size wr).drew.trans Jz;have Ew:=(hI.o.ctx.la I4).kb.cell 0 rfl;have Ek:=(hI.o.kp.la I4).cell 0 rfl;have El:=(hI.o.kp.la I4).cell 1 rfl;have Em:=(hI.o.kp.la I4).cell 2 rfl))
    clear Ev cp0 cp1 cp2 S8;have A7:=Bx.mk I4;have HK:=Bx.mk OQ;clear Ex Eo Ep Er Ew Ek El Em I4 Jz Ly Tz OQ hg Ig;obtain ⟨way⟩:=RD;rcases way with ⟨rfl,hf,rfl,hs⟩ | ⟨rfl,rfl,Pp,us,SL,SM,SN,hs⟩
    · have If:=Bx.mk (zHs HC.o HF.o hlt NJ hI.o A7.o HK.o hf hs);have RM:=zLh (hI.o.row.of_block (A7.o.block gk hI.o.size)) HK.o (.inr ⟨by omega,nlr⟩)
      have LO:=RM.cell hlt;have Mu:=RM.frozen k;have b1:(0:Int)≤(k:Int):=by omega
      have b2:(k:Int)<8:=by omega
      clear hs hf RM HK A7 hI;go_wp2_with fail
      go_roundw
      case rel=>exact ⟨k+1,by omega,by go_num,If⟩
      case measure=>simp [intOf];omega
    · have Hg:Bx (Grew Far sb UA ts (Tr.add (Tr.mkInner (n+3) (fun i=>ch i.val)) ts) (Tr.mkInner (n+3) (fun i=>ch i.val)) w (zLY 0 14) w5):=⟨by
       have QZ:=Tr.addK_prefix (fun i:Fin 8=>ch i.val) k (by omega) ts
       have Qb:Tr.addK (fun i:Fin 8=>ch i.val) k ts <+: Tr.addK (fun i:Fin 8=>ch i.val) (k+1) ts:=zAn (by omega) (by omega)
       have Qc:Tr.addK (fun i:Fin 8=>ch i.val) (k+1) ts <+: Tr.add (Tr.mkInner (n+3) (fun i=>ch i.val)) ts:=(zAn (by omega) nlr).trans (zGo HG.o)
       refine ⟨(hI.o.keeps.trans (Keeps.below A7.o)).trans (HK.o.less (fun k hk=>.inl hk)),nlt (nlt hI.o.keeps.size A7.o.size) HK.o.size,.inr ⟨?_,rfl,us,SL,QZ.trans SM,SN.trans Qc,hs.less (fun k hk=>.inl hk)⟩⟩;exact Tr.not_fits_mono (QZ.trans Qb) Qc (Tr.not_fits_later QZ Qb Pp)⟩
      clear hs Pp SL SM SN HK A7 hI;go_wp2_with fail
      go_ret2
      exact Hg.o
  · obtain rfl:k=8:=by omega
    have PJ : ∀ i:Fin 8,(fun i:Fin 8=>ch i.val) i∈Tr.addK (fun i=>ch i.val) 8 ts:=fun i=>Tr.addK_mem _ ts 8 nlr i i.isLt;have Ia:Good (Tr.addK (fun i=>ch i.val) 8 ts):=zFo HG.o (fun i=>HW.o _) 8 nlr;have Qd:=zGo (d:=n+3) (ch:=fun i:Fin 8=>ch i.val) HG.o;have OW:=Qd.length_le;have hin:=zGj wr (fun x=>Far x∨(w.heap.size≤x∧x≤gk)) sb UA (Tr.addK (fun i=>ch i.val) 8 ts) (n+3) (by omega) (fun i=>ch i.val) PJ Ia (by have:=HL.o;omega) (fun x hx=>by have:=hI.o.size;rcases hx with hx | hx;exact nll (HF.o x hx) hI.o.keeps.size;omega) hI.o.store
    rw [zGi HG.o (fun i=>HW.o _),show ((n+3:Nat):Int)=(n:Int)+3 by omega] at hin
    have hin:=Bx.mk hin;clear PJ Ia OW;have hr:=hI.o.row;have d0:wr.cell? ⟨gk,0,none⟩=some (.int .i64 (idT (Tr.addK (fun i=>ch i.val) 8 ts) (ch 0):Int)):=by have:=hr.cell (i:=0) (by omega);simpa using this
    have d1:wr.cell? ⟨gk,1,none⟩=some (.int .i64 (idT (Tr.addK (fun i=>ch i.val) 8 ts) (ch 1):Int)):=by have:=hr.cell (i:=1) (by omega);simpa using this
    have d2:wr.cell? ⟨gk,2,none⟩=some (.int .i64 (idT (Tr.addK (fun i=>ch i.val) 8 ts) (ch 2):Int)):=by have:=hr.cell (i:=2) (by omega);simpa using this
    have d3:wr.cell? ⟨gk,3,none⟩=some (.int .i64 (idT (Tr.addK (fun i=>ch i.val) 8 ts) (ch 3):Int)):=by have:=hr.cell (i:=3) (by omega);simpa using this
    have d4:wr.cell? ⟨gk,4,none⟩=some (.int .i64 (idT (Tr.addK (fun i=>ch i.val) 8 ts) (ch 4):Int)):=by have:=hr.cell (i:=4) (by omega);simpa using this
    have d5:wr.cell? ⟨gk,5,none⟩=some (.int .i64 (idT (Tr.addK (fun i=>ch i.val) 8 ts) (ch 5):Int)):=by have:=hr.cell (i:=5) (by omega);simpa using this
    have d6:wr.cell? ⟨gk,6,none⟩=some (.int .i64 (idT (Tr.addK (fun i=>ch i.val) 8 ts) (ch 6):Int)):=by have:=hr.cell (i:=6) (by omega);simpa using this
    have d7:wr.cell? ⟨gk,7,none⟩=some (.int .i64 (idT (Tr.addK (fun i=>ch i.val) 8 ts) (ch 7):Int)):=by have:=hr.cell (i:=7) (by omega);simpa using this
    have cr:=hI.o.ctx.kr.cell 0 rfl;have Qd:=Bx.mk Qd;clear hr;go_wp2_with fail;refine hin.o.mono ?_;rintro e5 w5 hg
    have Hg:Bx (Grew Far sb UA ts (Tr.add (Tr.mkInner (n+3) (fun i=>ch i.val)) ts) (Tr.mkInner (n+3) (fun i=>ch i.val)) w e5 w5):=⟨by
     refine ⟨hI.o.keeps.trans (hg.keeps.less (fun k hk=>.inl hk)),nlt hI.o.keeps.size hg.size,?_⟩;have Qq:=Tr.addK_prefix (fun i:Fin 8=>ch i.val) 8 nlr ts;rcases hg.way with ⟨h1,h2,h3⟩ | ⟨h1,h2,us,h3,h4,h5,h6⟩
     · exact .inl ⟨Tr.fits_trans Qq Qd.o hI.o.fits h1,h2,h3.less (fun k hk=>.inl hk)⟩
     · exact .inr ⟨Tr.not_fits_later Qq Qd.o h1,h2,us,h3,Qq.trans h4,h5,h6.less (fun k hk=>.inl hk)⟩⟩
    obtain ⟨-,-,(⟨hf,rfl,hs⟩ | ⟨hf,rfl,us,hs⟩)⟩:=hg
    all_goals
     clear hf hs d0 d1 d2 d3 d4 d5 d6 d7;go_wp2_with fail
     go_ret2
     exact Hg.o
end
section
open Go.RowKit Go.Sort Go.Maps
open Oct
theorem zGU {n:Nat} {ax ay az m:Int} (hm:m=2 ^ (n+2)) (ha:Tr.Al n ⟨ax,ay,az⟩) {p:Pt} (h:Tr.InC n ⟨ax,ay,az⟩ p):inB p ⟨⟨ax,ay,az⟩,⟨ax+m,ay+m,az+m⟩⟩=true:=by
 obtain ⟨h1,h2,h3⟩:=h;obtain ⟨a1,a2,a3⟩:=ha;have hp:=Tr.pow_pos2 n;rw [←hm] at h1 h2 h3 a1 a2 a3 hp;simp only [] at h1 h2 h3 a1 a2 a3
 have key : ∀ p a:Int,p / m=a / m→a % m=0→a≤p∧p<a+m:=by
  intro p a h1 h2;have e1:=Int.mul_ediv_add_emod p m;have e2:=Int.mul_ediv_add_emod a m;have e3:=Int.emod_nonneg p (show m ≠ 0 by omega)
  have e4:=Int.emod_lt_of_pos p hp;rw [h1] at e1;omega
 exact zb.2 ⟨(key _ _ h1 a1).1,(key _ _ h1 a1).2,(key _ _ h2 a2).1,(key _ _ h2 a2).2,(key _ _ h3 a3).1,(key _ _ h3 a3).2⟩
theorem zIp {n:Nat} {ax ay az m:Int} (hm:m=2 ^ (n+2)) (ha:Tr.Al n ⟨ax,ay,az⟩) {b:Box} (he:zS (zn ⟨⟨ax,ay,az⟩,⟨ax+m,ay+m,az+m⟩⟩ b)=true) (xs:List Int) {p:Pt} (h:Tr.InC n ⟨ax,ay,az⟩ p):zE b xs p=0:=by
 unfold zE;rw [if_neg];intro hb;have:=zc (zGa (zGU hm ha h) hb).1;rw [he] at this;cases this
theorem zDR (ax ay az:Int) (n i:Nat):Tr.cor ⟨ax,ay,az⟩ n i=⟨ax+chX i (2 ^ (n+2)),ay+chY i (2 ^ (n+2)),az+chZ i (2 ^ (n+2))⟩:=rfl
theorem zBr : ∀ (n:Nat),n≤12 → ∀ (w:World) (Far:Nat→Prop) (pg ps pb sb:Nat) (a b c d e f:Int) (ha:Option Addr) (hcp:Nat) (xs:List Int) (_HC:Bx (BCtx w Far pg ps pb sb a b c d e f ha hcp xs)) (_HX:GoodH ⟨⟨a,b,c⟩,⟨d,e,f⟩⟩ xs hcp) (ax ay az:Int) (_hal:Tr.Al n ⟨ax,ay,az⟩) (_hx:0≤ax∧ax+2 ^ (n+2)≤16384) (_hy:0≤ay∧ay+2 ^ (n+2)≤16384) (_hz:0≤az∧az+2 ^ (n+2)≤16384)
 (UA:Int) (ts:List Tr) (_hG:Good ts) (_hlen:(Tr.add (Tr.can (zE ⟨⟨a,b,c⟩,⟨d,e,f⟩⟩ xs) n ⟨ax,ay,az⟩) ts).length≤1000000000000) (_hFar : ∀ k,Far k→k<w.heap.size) (_hS:StoreIs w Far sb UA ts),
 Calls Tryz.prog 93 #[.agg #[ax,ay,az],((n:Int)+2:Int),.pointer (some ⟨pg,0,none⟩),.pointer (some ⟨ps,0,none⟩),.pointer (some ⟨pb,0,none⟩)] w (Grew Far sb UA ts (Tr.add (Tr.can (zE ⟨⟨a,b,c⟩,⟨d,e,f⟩⟩ xs) n ⟨ax,ay,az⟩) ts) (Tr.can (zE ⟨⟨a,b,c⟩,⟨d,e,f⟩⟩ xs) n ⟨ax,ay,az⟩) w):=by
 intro n
 induction n with
 | zero =>
   intro hn w Far pg ps pb sb a b c d e f ha hcp xs HC HX ax ay az Jb hx hy hz UA ts hG Od IV hS;have e4:(2:Int) ^ (0+2)=4:=by decide
   rw [e4] at hx hy hz;have hl:=nlt (Tr.add_prefix (Tr.can (zE ⟨⟨a,b,c⟩,⟨d,e,f⟩⟩ xs) 0 ⟨ax,ay,az⟩) ts).length_le Od;cases he:zS (zn ⟨⟨ax,ay,az⟩,⟨ax+4,ay+4,az+4⟩⟩ ⟨⟨a,b,c⟩,⟨d,e,f⟩⟩) with
   | true =>
     have TQ:=zB9 0 ⟨ax,ay,az⟩ (zE ⟨⟨a,b,c⟩,⟨d,e,f⟩⟩ xs) Jb (fun p hp=>zIp e4.symm Jb he xs hp);rw [TQ];exact zBt w Far pg ps pb sb a b c d e f ha hcp xs HC 0 (by omega) ax ay az 4 e4.symm (by omega) (by omega) (by omega) he UA ts hG hl IV hS
   | false =>
     exact zBs w Far pg ps pb sb a b c d e f ha hcp xs HC HX ax ay az (by omega) (by omega) (by omega) he UA ts hG hl IV hS
 | succ n ih =>
   intro hn w Far pg ps pb sb a b c d e f ha hcp xs HC HX ax ay az Jb hx hy hz UA ts hG Od IV hS;have hl:=nlt (Tr.add_prefix (Tr.can (zE ⟨⟨a,b,c⟩,⟨d,e,f⟩⟩ xs) (n+1) ⟨ax,ay,az⟩) ts).length_le Od;have hp:=Tr.pow_pos2 (n+1);have Qb:=Tr.pow_succ2 n;have Qc:=Tr.pow_pos2 n;cases he:zS (zn ⟨⟨ax,ay,az⟩,⟨ax+2 ^ (n+1+2),ay+2 ^ (n+1+2),az+2 ^ (n+1+2)⟩⟩ ⟨⟨a,b,c⟩,⟨d,e,f⟩⟩) with
   | true =>
     have TQ:=zB9 (n+1) ⟨ax,ay,az⟩ (zE ⟨⟨a,b,c⟩,⟨d,e,f⟩⟩ xs) Jb (fun p hp=>zIp rfl Jb he xs hp);rw [TQ];exact zBt w Far pg ps pb sb a b c d e f ha hcp xs HC (n+1) hn ax ay az _ rfl (by omega) (by omega) (by omega) he UA ts hG hl IV hS
   | false =>
     have hW : ∀ i,Tr.WF (Tr.can (zE ⟨⟨a,b,c⟩,⟨d,e,f⟩⟩ xs) n (Tr.cor ⟨ax,ay,az⟩ n i)):=fun i=>zAF HX.range n _ (by omega)
     have key:=zBu w Far pg ps pb sb a b c d e f ha hcp xs HC n (by omega) ax ay az _ (2 ^ (n+2)) rfl rfl (by omega) (by omega) (by omega) he UA ts (fun i=>Tr.can (zE ⟨⟨a,b,c⟩,⟨d,e,f⟩⟩ xs) n (Tr.cor ⟨ax,ay,az⟩ n i)) hW
      ⟨fun W Far' us i hi hC Ie hlu hFu hSu=>by
       obtain ⟨c1,c2,c3⟩:=zCg hi (m:=2 ^ (n+2)) (by omega)
       exact ih (by omega) W Far' pg ps pb sb a b c d e f ha hcp xs ⟨hC⟩ HX (ax+chX i (2 ^ (n+2))) (ay+chY i (2 ^ (n+2))) (az+chZ i (2 ^ (n+2))) (Tr.al_cor Jb i) (by omega) (by omega) (by omega) UA us Ie hlu hFu hSu⟩ hG Od IV hS
     rw [show (((n+1:Nat):Int)+2)=(n:Int)+3 by omega]
     exact key
theorem zA3 (n:Nat):Tr.Al n ⟨0,0,0⟩:=by unfold Tr.Al;simp
theorem zFc (w:World) (Far:Nat→Prop) (pg ps pb sb:Nat) (a b c d e f:Int) (ha:Option Addr) (hcp:Nat) (xs:List Int) (HC:Bx (BCtx w Far pg ps pb sb a b c d e f ha hcp xs)) (HX:GoodH ⟨⟨a,b,c⟩,⟨d,e,f⟩⟩ xs hcp) (pd n:Nat) (hn:n≤12) (kd:Bk w pd #[((n:Int)+2:Int)] 3) (UA:Int) (ts:List Tr) (hG:Good ts) (Od:(Tr.add (Tr.can (zE ⟨⟨a,b,c⟩,⟨d,e,f⟩⟩ xs) n ⟨0,0,0⟩) ts).length≤1000000000000) (IV : ∀ k,Far k→k<w.heap.size) (hS:StoreIs w Far sb UA ts) :
 Calls Tryz.prog 98 #[.pointer (some ⟨pb,0,none⟩),.pointer (some ⟨pd,0,none⟩)] w (Grew Far sb UA ts (Tr.add (Tr.can (zE ⟨⟨a,b,c⟩,⟨d,e,f⟩⟩ xs) n ⟨0,0,0⟩) ts) (Tr.can (zE ⟨⟨a,b,c⟩,⟨d,e,f⟩⟩ xs) n ⟨0,0,0⟩) w):=by
 have hp:=zt (show n+2≤14 by omega)
 have hb:=Bx.mk (zBr n hn w Far pg ps pb sb a b c d e f ha hcp xs HC HX 0 0 0 (zA3 n) (by omega) (by omega) (by omega) UA ts hG Od IV hS)
 have cd:=kd.cell 0 rfl;have cb:=HC.o.kb.cell 0 rfl;clear kd hp Od hG IV hS HX;generalize (Tr.can (zE ⟨⟨a,b,c⟩,⟨d,e,f⟩⟩ xs) n ⟨0,0,0⟩)=T at *;go_enter Tryz.func98,Tryz.ntmps98;go_wp2_with fail;refine hb.o.mono ?_;rintro e w1 hg;have Hg:=Bx.mk hg;obtain ⟨-,-,(⟨hf,rfl,hs⟩ | ⟨hf,rfl,us,hs⟩)⟩:=hg
 all_goals
  clear hf hs;go_wp2_with fail
  go_ret2
  exact Hg.o
theorem Done.since {w W w':World} {Far Far':Nat→Prop} {sb:Nat} {UA:Int} {ts ts':List Tr} {t:Tr} {e:Ending} (h:Done Far' sb UA ts ts' t W e w') (hb:Below w.heap.size w W) (hf : ∀ k,Far k→Far' k):Done Far sb UA ts ts' t w e w':=by
 refine ⟨(Keeps.below hb).trans (h.keeps.less hf),nlt hb.size h.size,?_⟩;rcases h.way with ⟨h1,h2,h3⟩ | ⟨h1,h2,h3⟩
 · exact .inl ⟨h1,h2,h3.less hf⟩
 · exact .inr ⟨h1,h2,h3.less hf⟩
theorem zFg (w:World) (sb:Nat) (a b c d e f:Int) (ha:Option Addr) (hcp:Nat) (xs:List Int) (n:Nat) (hn:n≤12) (m:Int) (hm:m=2 ^ (n+2)) (hl:xs.length≤1000000000) (Rn:Sl w .i64 ha xs) (HX:GoodH ⟨⟨a,b,c⟩,⟨d,e,f⟩⟩ xs hcp) (hV:zN6 ⟨⟨a,b,c⟩,⟨d,e,f⟩⟩ xs=true) (hE:zS ⟨⟨a,b,c⟩,⟨d,e,f⟩⟩=true) (Far:Nat→Prop) (N0:xs ≠ [] → ∀ b,ha.map (·.block)=some b→Far b) (UA:Int) (ts:List Tr) (hG:Good ts) (Od:(Tr.add (Tr.can (zE ⟨⟨a,b,c⟩,⟨d,e,f⟩⟩ xs) n ⟨0,0,0⟩) ts).length≤1000000000000) (IV : ∀ k,Far k→k<w.heap.size) (hS:StoreIs w Far sb UA ts) :
 Calls Tryz.prog 33 #[.pointer (some ⟨sb,0,none⟩),.agg #[a,b,c,d,e,f,.slice ha xs.length hcp],((n:Int)+2:Int)] w (Done Far sb UA ts (Tr.add (Tr.can (zE ⟨⟨a,b,c⟩,⟨d,e,f⟩⟩ xs) n ⟨0,0,0⟩) ts) (Tr.can (zE ⟨⟨a,b,c⟩,⟨d,e,f⟩⟩ xs) n ⟨0,0,0⟩) w):=by
 have Su:=zAF HX.range n ⟨0,0,0⟩ (by omega)
 have HW:=Bx.mk (fun W1 W5 hb pd kd Pd HC=>zOK W5 (fun x=>Far x∨(w.heap.size≤x∧x<W5.heap.size)) sb UA ts (Tr.add (Tr.can (zE ⟨⟨a,b,c⟩,⟨d,e,f⟩⟩ xs) n ⟨0,0,0⟩) ts) (Tr.can (zE ⟨⟨a,b,c⟩,⟨d,e,f⟩⟩ xs) n ⟨0,0,0⟩) ⟨W1,0,none⟩ ⟨pd,0,none⟩ (zBh _ hG Su) Od
  ((hS.widen (fun k hk=>hk.imp id (fun h=>h.1))).la hb)
  (zFc W5 (fun x=>Far x∨(w.heap.size≤x∧x<W5.heap.size)) (w.heap.size+1) w.heap.size W1 sb a b c d e f ha hcp xs ⟨HC⟩ HX pd n hn kd UA ts hG Od (fun k hk=>hk.elim (fun h=>nll (IV k h) Pd) (fun h=>h.2)) ((hS.widen (fun k hk=>hk.imp id (fun h=>h.1))).la hb)))
 have N0:=Bx.mk N0;clear Su HX hG Od IV hS;generalize (Tr.can (zE ⟨⟨a,b,c⟩,⟨d,e,f⟩⟩ xs) n ⟨0,0,0⟩)=T at *;have Sd:=zN7 a b c d e f ha hcp xs;have MX:=zU a b c d e f;have Lw:=fun W=>zDr (n+2) (by omega) 0 0 0 m hm (by omega) (by omega) (by omega) W
 have Lh:=zDF 0 0 0 (0+m) (0+m) (0+m) a b c d e f;rw [show ((n+2:Nat):Int)=(n:Int)+2 by omega] at Lw
 simp only [hV] at Sd;simp only [hE] at MX;replace Sd:=Bx.mk Sd;replace MX:=Bx.mk MX;replace Lw:=Bx.mk Lw;replace Lh:=Bx.mk Lh;have Ro:=Bx.mk Rn;have t1:decide ((n:Int)+2<2)=false:=by simp;omega
 have t2:decide (14<(n:Int)+2)=false:=by simp;omega
 have t3 : ¬((n:Int)+2<2):=by omega
 have t4 : ¬(14<(n:Int)+2):=by omega
 clear Rn hm hV hE;go_enter Tryz.func33,Tryz.ntmps33;go_upto_region 1 with fail;generalize hW:((w.alloc _).alloc _).alloc _=W;have JE:=sz3 hW;have hB:=bl3 hW;have kr:Bk W (w.heap.size) #[.pointer (some ⟨sb,0,none⟩)] 32:=bk2 hW;have kg:Bk W (w.heap.size+1) #[a,b,c,d,e,f,.slice ha xs.length hcp] 28:=bk1 hW;have kd:Bk W (w.heap.size+1+1) #[((n:Int)+2:Int)] 3:=bk0 hW;clear hW;have Ez:=kd.cell 0 rfl;go_wp2_with fail;clear Ez;have Rp:=Bx.mk (Ro.o.below hB);obtain ⟨F4,F5,F6,F7,F8,F9,FA⟩:=kg.r7;have Ez : ∀ dk osk,(grow (redrawn W dk) osk).cell? ⟨w.heap.size+1+1,0,none⟩=some (.int .i64 ((n:Int)+2)):=cq (kd.cell 0 rfl);have q0:=Bx.mk fun dk osk=>rq (Sd.o (grow (redrawn W dk) osk) hl (Rp.o.below (bq W dk osk)));have q1:=Bx.mk fun dk osk=>rq (MX.o (grow (redrawn W dk) osk));refine wg ?_
 repeat (first | go_big_quiet_step (with_reducible first | exact q0.o _ _ | exact q1.o _ _) | quiet_step (with_reducible first | exact q0.o _ _ | exact q1.o _ _))
 refine wq ?_;rintro _ ⟨⟨dq,osq⟩,rfl⟩;have hb:=bq W dq osq;clear F4 F5 F6 F7 F8 F9 FA;clear Ez;clear q0;clear q1;replace hB:=tr hB hb;replace kr:=kr.la hb;replace kg:=kg.la hb;replace kd:=kd.la hb;replace JE:=nlt JE hb.size;clear hb;generalize grow (redrawn W dq) osq=W1 at *;have Fq : ∀ o,(W1.alloc o).cell? ⟨w.heap.size,0,none⟩=some (.pointer (some ⟨sb,0,none⟩)):=fun o=>(kr.alloc o).cell 0 rfl;go_wp2_with fail;generalize hW5:W1.alloc _=W5;have K3:Below W1.heap.size W1 W5:=by rw [←hW5];exact zB _ _
 have kb:Bk W5 W1.heap.size #[.func (.func 93) #[] #[.pointer (some ⟨w.heap.size+1,0,none⟩),.pointer (some ⟨w.heap.size,0,none⟩),.pointer (some ⟨W1.heap.size,0,none⟩)]] 135:=bk0 hW5 rfl;have Ra:W5.heap.size=W1.heap.size+1:=by rw [←hW5];simp
 have I5:=Bx.mk (tr hB K3);have HC:Bx (BCtx W5 (fun x=>Far x∨(w.heap.size≤x∧x<W5.heap.size)) (w.heap.size+1) w.heap.size W1.heap.size sb a b c d e f ha hcp xs):=⟨⟨kg.la K3,kr.la K3,kb,.inr ⟨by omega,by omega⟩,.inr ⟨by omega,by omega⟩,.inr ⟨by omega,by omega⟩,Ro.o.below I5.o,fun hx b hb=>.inl (N0.o hx b hb)⟩⟩
 have Ti:=Bx.mk (kd.la K3);clear hW5 kb K3 Fq kr kg kd Rp;refine (HW.o _ W5 I5.o _ Ti.o I5.o.size HC.o).mono ?_;rintro e9 w9 hg;have Hg:=Bx.mk (hg.since (Far:=Far) I5.o (fun k hk=>.inl hk));obtain ⟨-,-,(⟨hf,rfl,hs⟩ | ⟨hf,rfl,hs⟩)⟩:=hg
 all_goals
  clear hf hs;go_wp2_with fail
  go_ret2
  exact Hg.o
theorem zFf (w:World) (sb:Nat) (a b c d e f:Int) (ha:Option Addr) (hcp:Nat) (xs:List Int) (n:Nat) (hn:n≤12) (m:Int) (hm:m=2 ^ (n+2)) (hl:xs.length≤1000000000) (Rn:Sl w .i64 ha xs) (HX:GoodH ⟨⟨a,b,c⟩,⟨d,e,f⟩⟩ xs hcp) (hV:zN6 ⟨⟨a,b,c⟩,⟨d,e,f⟩⟩ xs=true) (hE:zS ⟨⟨a,b,c⟩,⟨d,e,f⟩⟩=false) (hC:zL ⟨⟨0,0,0⟩,⟨m,m,m⟩⟩ ⟨⟨a,b,c⟩,⟨d,e,f⟩⟩=true) (Far:Nat→Prop) (N0:xs ≠ [] → ∀ b,ha.map (·.block)=some b→Far b) (UA:Int) (ts:List Tr) (hG:Good ts) (Od:(Tr.add (Tr.can (zE ⟨⟨a,b,c⟩,⟨d,e,f⟩⟩ xs) n ⟨0,0,0⟩) ts).length≤1000000000000) (IV : ∀ k,Far k→k<w.heap.size) (hS:StoreIs w Far sb UA ts) :
 Calls Tryz.prog 33 #[.pointer (some ⟨sb,0,none⟩),.agg #[a,b,c,d,e,f,.slice ha xs.length hcp],((n:Int)+2:Int)] w (Done Far sb UA ts (Tr.add (Tr.can (zE ⟨⟨a,b,c⟩,⟨d,e,f⟩⟩ xs) n ⟨0,0,0⟩) ts) (Tr.can (zE ⟨⟨a,b,c⟩,⟨d,e,f⟩⟩ xs) n ⟨0,0,0⟩) w):=by
 have Su:=zAF HX.range n ⟨0,0,0⟩ (by omega)
 have HW:=Bx.mk (fun W1 W5 hb pd kd Pd HC=>zOK W5 (fun x=>Far x∨(w.heap.size≤x∧x<W5.heap.size)) sb UA ts (Tr.add (Tr.can (zE ⟨⟨a,b,c⟩,⟨d,e,f⟩⟩ xs) n ⟨0,0,0⟩) ts) (Tr.can (zE ⟨⟨a,b,c⟩,⟨d,e,f⟩⟩ xs) n ⟨0,0,0⟩) ⟨W1,0,none⟩ ⟨pd,0,none⟩ (zBh _ hG Su) Od
  ((hS.widen (fun k hk=>hk.imp id (fun h=>h.1))).la hb)
  (zFc W5 (fun x=>Far x∨(w.heap.size≤x∧x<W5.heap.size)) (w.heap.size+1) w.heap.size W1 sb a b c d e f ha hcp xs ⟨HC⟩ HX pd n hn kd UA ts hG Od (fun k hk=>hk.elim (fun h=>nll (IV k h) Pd) (fun h=>h.2)) ((hS.widen (fun k hk=>hk.imp id (fun h=>h.1))).la hb)))
 have N0:=Bx.mk N0;clear Su HX hG Od IV hS;generalize (Tr.can (zE ⟨⟨a,b,c⟩,⟨d,e,f⟩⟩ xs) n ⟨0,0,0⟩)=T at *;have Sd:=zN7 a b c d e f ha hcp xs;have MX:=zU a b c d e f;have Lw:=fun W=>zDr (n+2) (by omega) 0 0 0 m hm (by omega) (by omega) (by omega) W
 have Lh:=zDF 0 0 0 (0+m) (0+m) (0+m) a b c d e f;rw [show ((n+2:Nat):Int)=(n:Int)+2 by omega] at Lw
 simp only [hV] at Sd;simp only [hE] at MX;simp only [Int.zero_add] at Lh Lw;simp only [hC] at Lh;replace Sd:=Bx.mk Sd;replace MX:=Bx.mk MX;replace Lw:=Bx.mk Lw;replace Lh:=Bx.mk Lh;have Ro:=Bx.mk Rn;have t1:decide ((n:Int)+2<2)=false:=by simp;omega
 have t2:decide (14<(n:Int)+2)=false:=by simp;omega
 have t3 : ¬((n:Int)+2<2):=by omega
 have t4 : ¬(14<(n:Int)+2):=by omega
 clear Rn hm hV hE hC;go_enter Tryz.func33,Tryz.ntmps33;go_upto_region 1 with fail;generalize hW:((w.alloc _).alloc _).alloc _=W;have JE:=sz3 hW;have hB:=bl3 hW;have kr:Bk W (w.heap.size) #[.pointer (some ⟨sb,0,none⟩)] 32:=bk2 hW;have kg:Bk W (w.heap.size+1) #[a,b,c,d,e,f,.slice ha xs.length hcp] 28:=bk1 hW;have kd:Bk W (w.heap.size+1+1) #[((n:Int)+2:Int)] 3:=bk0 hW;clear hW;have Ez:=kd.cell 0 rfl;go_wp2_with fail;clear Ez;have Rp:=Bx.mk (Ro.o.below hB);obtain ⟨F4,F5,F6,F7,F8,F9,FA⟩:=kg.r7;have Ez : ∀ dk osk,(grow (redrawn W dk) osk).cell? ⟨w.heap.size+1+1,0,none⟩=some (.int .i64 ((n:Int)+2)):=cq (kd.cell 0 rfl);have q0:=Bx.mk fun dk osk=>rq (Sd.o (grow (redrawn W dk) osk) hl (Rp.o.below (bq W dk osk)));have q1:=Bx.mk fun dk osk=>rq (MX.o (grow (redrawn W dk) osk));have q2:=Bx.mk fun dk osk=>rq (Lw.o (grow (redrawn W dk) osk));have q3:=Bx.mk fun dk osk=>rq (Lh.o (grow (redrawn W dk) osk));refine wg ?_
 repeat (first | go_big_quiet_step (with_reducible first | exact q0.o _ _ | exact q1.o _ _ | exact q2.o _ _ | exact q3.o _ _) | quiet_step (with_reducible first | exact q0.o _ _ | exact q1.o _ _ | exact q2.o _ _ | exact q3.o _ _))
 refine wq ?_;rintro _ ⟨⟨dq,osq⟩,rfl⟩;have hb:=bq W dq osq;clear F4 F5 F6 F7 F8 F9 FA;clear Ez;clear q0;clear q1;clear q2;clear q3;replace hB:=tr hB hb;replace kr:=kr.la hb;replace kg:=kg.la hb;replace kd:=kd.la hb;replace JE:=nlt JE hb.size;clear hb;generalize grow (redrawn W dq) osq=W1 at *;have Fq : ∀ o,(W1.alloc o).cell? ⟨w.heap.size,0,none⟩=some (.pointer (some ⟨sb,0,none⟩)):=fun o=>(kr.alloc o).cell 0 rfl;go_wp2_with fail;generalize hW5:W1.alloc _=W5;have K3:Below W1.heap.size W1 W5:=by rw [←hW5];exact zB _ _
 have kb:Bk W5 W1.heap.size #[.func (.func 93) #[] #[.pointer (some ⟨w.heap.size+1,0,none⟩),.pointer (some ⟨w.heap.size,0,none⟩),.pointer (some ⟨W1.heap.size,0,none⟩)]] 135:=bk0 hW5 rfl;have Ra:W5.heap.size=W1.heap.size+1:=by rw [←hW5];simp
 have I5:=Bx.mk (tr hB K3);have HC:Bx (BCtx W5 (fun x=>Far x∨(w.heap.size≤x∧x<W5.heap.size)) (w.heap.size+1) w.heap.size W1.heap.size sb a b c d e f ha hcp xs):=⟨⟨kg.la K3,kr.la K3,kb,.inr ⟨by omega,by omega⟩,.inr ⟨by omega,by omega⟩,.inr ⟨by omega,by omega⟩,Ro.o.below I5.o,fun hx b hb=>.inl (N0.o hx b hb)⟩⟩
 have Ti:=Bx.mk (kd.la K3);clear hW5 kb K3 Fq kr kg kd Rp;refine (HW.o _ W5 I5.o _ Ti.o I5.o.size HC.o).mono ?_;rintro e9 w9 hg;have Hg:=Bx.mk (hg.since (Far:=Far) I5.o (fun k hk=>.inl hk));obtain ⟨-,-,(⟨hf,rfl,hs⟩ | ⟨hf,rfl,hs⟩)⟩:=hg
 all_goals
  clear hf hs;go_wp2_with fail
  go_ret2
  exact Hg.o
end
section
open Go.RowKit Go.Sort Go.Maps
open Oct
attribute [local go_sem ↓] Go.wp_at_zero Go.wp_at_succ
theorem zOF {ts:List Tr} (hG:Good ts) : ∀ (t:Tr),t∈ts→Tr.WF t:=by
 intro t
 induction t with
 | uni c=>intro h;exact (hG.bytes _ h).unis c rfl
 | brick l=>intro h;exact (hG.bytes _ h).bricks l rfl
 | node d ch ih=>intro h;exact ⟨(hG.bytes _ h).nodes d ch rfl,fun i=>ih i (hG.closed.2 d ch h i)⟩
end
section
open Go.RowKit Go.Sort Go.Maps
open Oct
theorem zGb {n:Nat} (hn:n≤12) {px py pz:Int} (h:inB ⟨px,py,pz⟩ (zN (2 ^ (n+2)))=true):(0≤px∧px≤100000)∧(0≤py∧py≤100000)∧(0≤pz∧pz≤100000):=by
 have hl:=(zt (show n+2≤14 by omega)).2
 have:=zb.1 h;simp only [zN,Pt.zero] at this;omega
theorem zGL (a b:Nat) (ha:a<4611686018427387904) (hb:b<4611686018427387904):bits .or .i64 (a:Int) (b:Int)=((a ||| b:Nat):Int):=by
 have hx:a ||| b<2 ^ 62:=Nat.or_lt_two_pow (by omega) (by omega)
 show IntKind.i64.wrap ((BitVec.ofInt 64 (a:Int) ||| BitVec.ofInt 64 (b:Int)).toNat:Int)=_
 rw [BitVec.toNat_or,Go.ofInt_u64 a (by omega),Go.ofInt_u64 b (by omega)]
 exact zOp _ (by omega) (by omega)
def alB (L:Nat) (p:Pt):Bool:=decide (p.x % 2 ^ L=0∧p.y % 2 ^ L=0∧p.z % 2 ^ L=0)
theorem zA1 (L:Nat) (hL:L≤14) (px py pz:Int) (hx:0≤px∧px≤100000) (hy:0≤py∧py≤100000) (hz:0≤pz∧pz≤100000) :
 ∃ q r:Int,bits .or .i64 (bits .or .i64 px py) pz=q∧bits .and .i64 q (2 ^ L - 1)=r∧(r != 0) = !alB L ⟨px,py,pz⟩:=by
 obtain ⟨a,rfl⟩:=Int.eq_ofNat_of_zero_le hx.1;obtain ⟨b,rfl⟩:=Int.eq_ofNat_of_zero_le hy.1;obtain ⟨c,rfl⟩:=Int.eq_ofNat_of_zero_le hz.1;have h1:a ||| b<2 ^ 20:=Nat.or_lt_two_pow (by omega) (by omega)
 have h2:a ||| b ||| c<2 ^ 20:=Nat.or_lt_two_pow h1 (by omega)
 refine ⟨((a ||| b ||| c:Nat):Int),(((a ||| b ||| c:Nat):Int) % 2 ^ L),?_,?_,?_⟩
 · rw [zGL a b (by omega) (by omega),zGL _ c (by omega) (by omega)]
 · have h62:(2:Int) ^ 62=4611686018427387904:=by decide
   exact bits_mask .i64 62 (by decide) zOp L (by omega) _ (by omega) (by rw [h62];omega)
 · have e:(((a ||| b ||| c:Nat):Int) % 2 ^ L)=(((a % 2 ^ L) ||| (b % 2 ^ L) ||| (c % 2 ^ L):Nat):Int):=by
    rw [←Nat.or_mod_two_pow,←Nat.or_mod_two_pow]
    norm_cast
   rw [e];unfold alB;rw [Bool.eq_iff_iff];simp only [bne_iff_ne,ne_eq,Bool.not_eq_true',decide_eq_false_iff_not];have e1:((a:Int) % 2 ^ L=0) ↔ a % 2 ^ L=0:=by norm_cast
   have e2:((b:Int) % 2 ^ L=0) ↔ b % 2 ^ L=0:=by norm_cast
   have e3:((c:Int) % 2 ^ L=0) ↔ c % 2 ^ L=0:=by norm_cast
   rw [e1,e2,e3];generalize a % 2 ^ L=x;generalize b % 2 ^ L=y;generalize c % 2 ^ L=z
   have e4:(((x ||| y ||| z:Nat):Int)=0) ↔ (x=0∧y=0∧z=0):=by
    rw [show (((x ||| y ||| z:Nat):Int)=0) ↔ (x ||| y ||| z=0) by omega,Nat.or_eq_zero_iff,Nat.or_eq_zero_iff]
    omega
   rw [e4]
def zJv:Tr→Nat→Nat→Pt→Tr
 | t,0,_,_=>t
 | t,n+1,L,p=>if L<n+3 then (match t with | .node _ ch=>zJv (ch (Tr.oct n p)) n L p | t=>t) else t
theorem zJ5 (w:World) (sb n:Nat) (hn:n≤12) (id px py pz lv:Int) (hI:inB ⟨px,py,pz⟩ (zN (2 ^ (n+2)))=false) :
 Calls Tryz.prog 38 #[.pointer (some ⟨sb,0,none⟩),id,((n:Int)+2:Int),.agg #[px,py,pz],lv] w fun e w'=>e=zLY 0 1∧Below w.heap.size w w':=by
 have hin:=fun W=>zGw (n+2) (by omega) px py pz W
 rw [show ((n+2:Nat):Int)=(n:Int)+2 by omega] at hin
 simp only [hI] at hin;replace hin:=Bx.mk hin;clear hI;go_enter Tryz.func38,Tryz.ntmps38;go_wp2_with fail;generalize hW:w.alloc _=W;have JE:=sz1 hW;have hB:=bl1 hW;have kp:Bk W (w.heap.size) #[px,py,pz] 23:=bk0 hW;clear hW;obtain ⟨cp0,cp1,cp2⟩:=kp.r3;have q0:=Bx.mk fun dk osk=>rq (hin.o (grow (redrawn W dk) osk));refine wg ?_
 repeat (first | go_big_quiet_step (with_reducible exact q0.o _ _) | quiet_step (with_reducible exact q0.o _ _))
 refine wq ?_;rintro _ ⟨⟨dq,osq⟩,rfl⟩;have hb:=bq W dq osq;clear cp0 cp1 cp2;clear q0;replace hB:=tr hB hb;replace kp:=kp.la hb;replace JE:=nlt JE hb.size;clear hb;generalize grow (redrawn W dq) osq=W1 at *;go_wp2_with fail
 go_ret2
 exact ⟨rfl,hB⟩
theorem zJ6 (w:World) (sb n:Nat) (hn:n≤12) (id px py pz lv:Int) (hI:inB ⟨px,py,pz⟩ (zN (2 ^ (n+2)))=true) (h1:lv<2) :
 Calls Tryz.prog 38 #[.pointer (some ⟨sb,0,none⟩),id,((n:Int)+2:Int),.agg #[px,py,pz],lv] w fun e w'=>e=zLY 0 1∧Below w.heap.size w w':=by
 have hin:=fun W=>zGw (n+2) (by omega) px py pz W
 rw [show ((n+2:Nat):Int)=(n:Int)+2 by omega] at hin
 simp only [hI] at hin;replace hin:=Bx.mk hin;have t1:decide (lv<2)=true:=by simpa using h1
 clear hI;go_enter Tryz.func38,Tryz.ntmps38;go_wp2_with fail;generalize hW:w.alloc _=W;have JE:=sz1 hW;have hB:=bl1 hW;have kp:Bk W (w.heap.size) #[px,py,pz] 23:=bk0 hW;clear hW;obtain ⟨cp0,cp1,cp2⟩:=kp.r3;have q0:=Bx.mk fun dk osk=>rq (hin.o (grow (redrawn W dk) osk));refine wg ?_
 repeat (first | go_big_quiet_step (with_reducible exact q0.o _ _) | quiet_step (with_reducible exact q0.o _ _))
 refine wq ?_;rintro _ ⟨⟨dq,osq⟩,rfl⟩;have hb:=bq W dq osq;clear cp0 cp1 cp2;clear q0;replace hB:=tr hB hb;replace kp:=kp.la hb;replace JE:=nlt JE hb.size;clear hb;generalize grow (redrawn W dq) osq=W1 at *;go_wp2_with fail
 go_ret2
 exact ⟨rfl,hB⟩
theorem zJ4 (w:World) (sb n:Nat) (hn:n≤12) (id px py pz lv:Int) (hI:inB ⟨px,py,pz⟩ (zN (2 ^ (n+2)))=true) (h1 : ¬lv<2) (h2:(n:Int)+2<lv) :
 Calls Tryz.prog 38 #[.pointer (some ⟨sb,0,none⟩),id,((n:Int)+2:Int),.agg #[px,py,pz],lv] w fun e w'=>e=zLY 0 1∧Below w.heap.size w w':=by
 have hin:=fun W=>zGw (n+2) (by omega) px py pz W
 rw [show ((n+2:Nat):Int)=(n:Int)+2 by omega] at hin
 simp only [hI] at hin;replace hin:=Bx.mk hin;have t1:decide (lv<2)=false:=by simpa using h1
 have t2:decide ((n:Int)+2<lv)=true:=by simpa using h2
 clear hI;go_enter Tryz.func38,Tryz.ntmps38;go_wp2_with fail;generalize hW:w.alloc _=W;have JE:=sz1 hW;have hB:=bl1 hW;have kp:Bk W (w.heap.size) #[px,py,pz] 23:=bk0 hW;clear hW;obtain ⟨cp0,cp1,cp2⟩:=kp.r3;have q0:=Bx.mk fun dk osk=>rq (hin.o (grow (redrawn W dk) osk));refine wg ?_
 repeat (first | go_big_quiet_step (with_reducible exact q0.o _ _) | quiet_step (with_reducible exact q0.o _ _))
 refine wq ?_;rintro _ ⟨⟨dq,osq⟩,rfl⟩;have hb:=bq W dq osq;clear cp0 cp1 cp2;clear q0;replace hB:=tr hB hb;replace kp:=kp.la hb;replace JE:=nlt JE hb.size;clear hb;generalize grow (redrawn W dq) osq=W1 at *;go_wp2_with fail
 go_ret2
 exact ⟨rfl,hB⟩
theorem zJ2 (w:World) (sb n L:Nat) (hn:n≤12) (hL:2≤L) (Ir:L≤n+2) (id px py pz:Int) (hI:inB ⟨px,py,pz⟩ (zN (2 ^ (n+2)))=true) (hA:alB L ⟨px,py,pz⟩=false) :
 Calls Tryz.prog 38 #[.pointer (some ⟨sb,0,none⟩),id,((n:Int)+2:Int),.agg #[px,py,pz],(L:Int)] w fun e w'=>e=zLY 0 1∧Below w.heap.size w w':=by
 have hin:=fun W=>zGw (n+2) (by omega) px py pz W
 rw [show ((n+2:Nat):Int)=(n:Int)+2 by omega] at hin
 simp only [hI] at hin;replace hin:=Bx.mk hin;obtain ⟨rx,ry,rz⟩:=zGb hn hI;obtain ⟨q,r,hq,hr,RU⟩:=zA1 L (by omega) px py pz rx ry rz
 rw [hA] at RU;have RV:(r == 0)=false:=by simpa [bne] using RU
 obtain ⟨mL,PK⟩ : ∃ mL,mL=(2:Int) ^ L:=⟨_,rfl⟩;have hp:IntKind.i64.wrap ((2:Int) ^ L)=mL:=by rw [zu (by omega),PK]
 have PV:=zt (show L≤14 by omega)
 rw [←PK] at hr PV;have PF:IntKind.i64.wrap (mL - 1)=mL - 1:=wj _ (by omega)
 have t1:decide ((L:Int)<2)=false:=by simp;omega
 have t2:decide ((n:Int)+2<(L:Int))=false:=by simp;omega
 clear hI hA rx ry rz PK;go_enter Tryz.func38,Tryz.ntmps38;go_wp2_with fail;generalize hW:w.alloc _=W;have JE:=sz1 hW;have hB:=bl1 hW;have kp:Bk W (w.heap.size) #[px,py,pz] 23:=bk0 hW;clear hW;obtain ⟨cp0,cp1,cp2⟩:=kp.r3;have q0:=Bx.mk fun dk osk=>rq (hin.o (grow (redrawn W dk) osk));refine wg ?_
 repeat (first | go_big_quiet_step (with_reducible exact q0.o _ _) | quiet_step (with_reducible exact q0.o _ _))
 refine wq ?_;rintro _ ⟨⟨dq,osq⟩,rfl⟩;have hb:=bq W dq osq;clear cp0 cp1 cp2;clear q0;replace hB:=tr hB hb;replace kp:=kp.la hb;replace JE:=nlt JE hb.size;clear hb;generalize grow (redrawn W dq) osq=W1 at *;go_wp2_with fail
 go_ret2
 exact ⟨rfl,hB⟩
theorem zJ0 {u:Tr} {m L:Nat} {p:Pt} (h:m+2≤L):zJv u m L p=u:=by
 cases m with
 | zero=>rw [zJv]
 | succ m=>unfold zJv;rw [if_neg (by omega)]
theorem zJ1 {c:Int} {m L:Nat} {p:Pt}:zJv (.uni c) m L p = .uni c:=by
 cases m with
 | zero=>rw [zJv]
 | succ m=>unfold zJv;split <;> rfl
theorem zJz {ch:Fin 8→Tr} {m L d:Nat} {p:Pt} (h:L<m+3):zJv (.node d ch) (m+1) L p=zJv (ch (Tr.oct m p)) m L p:=by
 conv=>lhs;unfold zJv
 rw [if_pos h]
theorem zJx {ts:List Tr} (hG:Good ts) (L:Nat) (p:Pt) : ∀ (m:Nat) (u:Tr),u∈ts→Dep m u→zJv u m L p∈ts:=by
 intro m
 induction m with
 | zero=>intro u h _;rw [zJv];exact h
 | succ m ih =>
   intro u h hD;by_cases hL:L<m+3
   · cases hD with
     | uni _ c=>rw [zJ1];exact h
     | node _ ch LT=>rw [zJz hL];exact ih _ (hG.closed.2 _ _ h _) (LT _)
   · rw [zJ0 (by omega)];exact h
theorem zI1 {w:World} {g i:Nat} {ts:List Tr} {ch:Fin 8→Tr} {v0 v1 v2 v3:Value} (hc : ∀ j u,j<12→(#[v0,v1,v2,v3,(idT ts (ch 0):Int),(idT ts (ch 1):Int),(idT ts (ch 2):Int),(idT ts (ch 3):Int),(idT ts (ch 4):Int),(idT ts (ch 5):Int),(idT ts (ch 6):Int),(idT ts (ch 7):Int)]:Array Value).toList[j]? = some u→w.cell? ⟨g,i * 12+j,none⟩=some u) : ∀ k:Fin 8,w.cell? ⟨g,i * 12+4+k.val,none⟩=some (.int .i64 (idT ts (ch k):Int)) :=
 fun k=>by
  rw [Nat.add_assoc];exact fin8 (P:=fun k=>w.cell? ⟨g,i * 12+(4+k.val),none⟩=some (.int .i64 (idT ts (ch k):Int))) (hc 4 _ (by omega) rfl) (hc 5 _ (by omega) rfl) (hc 6 _ (by omega) rfl) (hc 7 _ (by omega) rfl) (hc 8 _ (by omega) rfl) (hc 9 _ (by omega) rfl) (hc 10 _ (by omega) rfl) (hc 11 _ (by omega) rfl) k
theorem zJ7 (w:World) (sb n L:Nat) (hn:n≤12) (hL:2≤L) (Ir:L≤n+2) (px py pz:Int) (hI:inB ⟨px,py,pz⟩ (zN (2 ^ (n+2)))=true) (hA:alB L ⟨px,py,pz⟩=true) (Far:Nat→Prop) (UA:Int) (ts:List Tr) (t:Tr) (ht:t∈ts) (hD:Dep n t) (hG:Good ts) (_hlen:ts.length≤1000000000000) (hS:StoreIs w Far sb UA ts) :
 Calls Tryz.prog 38 #[.pointer (some ⟨sb,0,none⟩),(idT ts t:Int),((n:Int)+2:Int),.agg #[px,py,pz],(L:Int)] w fun e w'=>e=zLY (idT ts (zJv t n L ⟨px,py,pz⟩):Int) 0∧Below w.heap.size w w':=by
 have hin:=fun W=>zGw (n+2) (by omega) px py pz W
 rw [show ((n+2:Nat):Int)=(n:Int)+2 by omega] at hin
 simp only [hI] at hin;replace hin:=Bx.mk hin;obtain ⟨rx,ry,rz⟩:=zGb hn hI;obtain ⟨q,r,hq,hr,RU⟩:=zA1 L (by omega) px py pz rx ry rz
 rw [hA] at RU;have RV:(r == 0)=true:=by simpa [bne] using RU
 obtain ⟨mL,PK⟩ : ∃ mL,mL=(2:Int) ^ L:=⟨_,rfl⟩;have hp:IntKind.i64.wrap ((2:Int) ^ L)=mL:=by rw [zu (by omega),PK]
 have PV:=zt (show L≤14 by omega)
 rw [←PK] at hr PV;have PF:IntKind.i64.wrap (mL - 1)=mL - 1:=wj _ (by omega)
 have t1:decide ((L:Int)<2)=false:=by simp;omega
 have t2:decide ((n:Int)+2<(L:Int))=false:=by simp;omega
 obtain ⟨rr,RN⟩ : ∃ rr,rr=zJv t n L ⟨px,py,pz⟩:=⟨_,rfl⟩;have HR:Bx (t∈ts∧Dep n t∧zJv t n L ⟨px,py,pz⟩=rr):=Bx.mk (And.intro ht (And.intro hD RN.symm));rw [←RN];have HX:=Bx.mk (And.intro rx (And.intro ry rz));have HS:=Bx.mk hS;have HG:=Bx.mk hG;clear hI hA rx ry rz PK RN ht hD hS hG;go_enter Tryz.func38,Tryz.ntmps38;go_wp2_with fail;generalize hW:w.alloc _=W;have JE:=sz1 hW;have hB:=bl1 hW;have kp:Bk W (w.heap.size) #[px,py,pz] 23:=bk0 hW;clear hW;obtain ⟨cp0,cp1,cp2⟩:=kp.r3;have q0:=Bx.mk fun dk osk=>rq (hin.o (grow (redrawn W dk) osk));refine wg ?_
 repeat (first | go_big_quiet_step (with_reducible exact q0.o _ _) | quiet_step (with_reducible exact q0.o _ _))
 refine wq ?_;rintro _ ⟨⟨dq,osq⟩,rfl⟩;have hb:=bq W dq osq;clear cp0 cp1 cp2;clear q0;replace hB:=tr hB hb;replace kp:=kp.la hb;replace JE:=nlt JE hb.size;clear hb;generalize grow (redrawn W dq) osq=W1 at *;go_wp2_with fail;have HB:=Bx.mk hB;have HP:=Bx.mk kp;clear hB JE kp hq hr RU RV hp PF t1 t2 hin
 go_loopw [1,2] (fun vi vd wr => ∃ (m:Nat) (u:Tr),vi = .int .i64 (idT ts u:Int)∧vd = .int .i64 ((m:Int)+2)∧m≤12∧Bx (u∈ts∧Dep m u∧zJv u m L ⟨px,py,pz⟩=rr)∧Bx (Below w.heap.size w wr)∧Bx (Bk wr w.heap.size #[px,py,pz] 23)) (fun _ vd _=>(intOf vd).toNat)
 case atStart=>exact ⟨n,t,rfl,rfl,hn,HR,HB,HP⟩
 case round =>
  clear HR HB HP;obtain ⟨m,u,rfl,rfl,hm,HR,HB,HP⟩:=hrel;obtain ⟨hu,hD,hr⟩:=HR.o;by_cases hlt:L<m+2
  · have t3:decide ((L:Int)<(m:Int)+2)=true:=by simp;omega
    have JD:=HS.o.la HB.o;cases hD with
    | brick l=>omega
    | uni _ c =>
      obtain ⟨g,cap,mb,ks,hi,hc⟩:=Bx.node JD hu (k:=1) (c:=c) rfl;have RO:Bx (Tr.uni c=rr):=⟨by rw [←hr,zJ1]⟩
      have Fu:=ks.cell 1 rfl;have d0:=hc.o 0 _ (by omega) rfl
      rw [Nat.add_zero] at d0;have b1:(0:Int)≤(idT ts (.uni c):Int):=by omega
      have b2:(idT ts (.uni c):Int)<(ts.length:Int):=by omega
      clear ks hc JD hu hr HR HX HS HG;go_wp2_with fail
      go_ret2
      exact ⟨congrArg (fun x=>zLY (idT ts x:Int) 0) RO.o,HB.o⟩
    | node m ch LT =>
      obtain ⟨g,cap,mb,ks,hi,hc⟩:=Bx.node JD hu (k:=3) (s:=ByteArray.empty) rfl;have HR2:Bx (ch (Tr.oct m ⟨px,py,pz⟩)∈ts∧Dep m (ch (Tr.oct m ⟨px,py,pz⟩))∧zJv (ch (Tr.oct m ⟨px,py,pz⟩)) m L ⟨px,py,pz⟩=rr):=⟨HG.o.closed.2 _ _ hu _,LT _,by rw [←hr,zJz (by omega)]⟩
      have Fu:=ks.cell 1 rfl;have d0:=hc.o 0 _ (by omega) rfl
      rw [Nat.add_zero] at d0;have nk:=zI1 hc.o (Tr.oct m ⟨px,py,pz⟩);have b1:(0:Int)≤(idT ts (.node (m+3) ch):Int):=by omega
      have b2:(idT ts (.node (m+3) ch):Int)<(ts.length:Int):=by omega
      have QC:=Bx.mk (fun W dd hd=>zJD m (by omega) dd hd px py pz HX.o.1 HX.o.2.1 HX.o.2.2 W)
      have Ks:=Bx.mk ks;have Nk:=Bx.mk nk;clear ks hc JD hu hr HR HX HS HG nk LT;generalize QE:Tr.oct m ⟨px,py,pz⟩=ok at *;clear QE;have OI:(0:Int)≤(idT ts (ch ok):Int):=by omega
      go_wp2_with fail;have s1 : ∀ dk osk,(grow (redrawn wr dk) osk).cell? ⟨sb,1,none⟩=some (.slice (some ⟨g,0,none⟩) ts.length cap):=cq (Ks.o.cell 1 rfl);have n1 : ∀ dk osk,(grow (redrawn wr dk) osk).cell? ⟨g,idT ts (.node (m+3) ch) * 12+4+ok.val,none⟩=some (.int .i64 (idT ts (ch ok):Int)):=cq Nk.o;have b3:(0:Int)≤(ok.val:Int):=by omega
      have b4:(ok.val:Int)<8:=by have:=ok.isLt;omega
      have kp:=HP.o;have hB:=HB.o;have JE:w.heap.size≤wr.heap.size:=hB.size;clear HB HP Fu d0;obtain ⟨cp0,cp1,cp2⟩:=kp.r3;have q0:=Bx.mk fun dk osk=>rq (QC.o (grow (redrawn wr dk) osk) ((m:Int)+1+2) (by omega))
      refine wg ?_
      repeat (first | go_big_quiet_step (with_reducible exact q0.o _ _) | quiet_step (with_reducible exact q0.o _ _))
      refine wq ?_;rintro _ ⟨⟨dq,osq⟩,rfl⟩;have hb:=bq wr dq osq;clear cp0 cp1 cp2;clear q0;replace hB:=tr hB hb;replace kp:=kp.la hb;replace JE:=nlt JE hb.size;clear hb;generalize grow (redrawn wr dq) osq=w4 at *;clear s1 n1;have HB:=Bx.mk hB;have HP:=Bx.mk kp;clear hB kp JE QC;go_wp2_with fail
      go_roundw
      case rel=>exact ⟨m,_,rfl,by go_num,by omega,HR2,HB,HP⟩
      case measure=>simp [intOf];omega
  · have t3:decide ((L:Int)<(m:Int)+2)=false:=by simp;omega
    have RO:Bx (u=rr):=⟨by rw [←hr,zJ0 (by omega)]⟩
    clear HX HS HG HR hu hD hr;go_wp2_with fail
    go_ret2
    exact ⟨congrArg (fun x=>zLY (idT ts x:Int) 0) RO.o,HB.o⟩
theorem MapFn.same {w w':World} {b n:Nat} {f:Value→Option Int} (h:MapFn w b n f) (hk:w'.heap[b]? = w.heap[b]?):MapFn w' b n f:=by
 obtain ⟨D,⟨es,clock,hb,F,hs,hd⟩,h2,h3⟩:=h;exact ⟨D,⟨es,clock,hk.trans hb,F,hs,hd⟩,h2,h3⟩
theorem zJl {w w':World} {B:Nat} {e:TypeId} {sz:Nat} {v:Value} {n:Nat} {xs:List Value} (h:w.ownsRow B e sz v n xs) (hk : ∀ g,v.ownBlock=some g→w'.heap[g]? = w.heap[g]?):w'.ownsRow B e sz v n xs:=by
 refine ⟨h.1,h.2.imp id ?_⟩;rintro ⟨g,cap,cur,rfl,h2,h3,h4⟩;exact ⟨g,cap,cur,rfl,h2,(hk g rfl).trans h3,h4⟩
theorem StoreIs.other {w w':World} {Far Far':Nat→Prop} {sb:Nat} {UA:Int} {ts:List Tr} (h:StoreIs w Far' sb UA ts) (hk:Keeps Far w w') (hf : ∀ k,¬Far' k→k<w.heap.size→Far k):StoreIs w' Far' sb UA ts:=by
 obtain ⟨mb,nv,h1,h2,h3,P⟩:=h.parts;have hb : ∀ k,¬Far' k→k<w.heap.size→w'.heap[k]? = w.heap[k]? := fun k h4 h5=>hk.block k (hf k h4 h5) h5;refine StoreIs.of ((hb sb P.fs h1.lt).trans h1) (zJl h2 (fun g hg=>hb g (P.fn g hg) (World.ownsRow.lt h2 g hg).2)) (h3.same (hb mb P.fm h3.lt)) P
theorem Grew.fit {Far:Nat→Prop} {sb:Nat} {UA:Int} {ts ts':List Tr} {t:Tr} {w w':World} {e:Ending} (h:Grew Far sb UA ts ts' t w e w') (hf:Tr.Fits UA ts ts'):e=zLY (idT ts' t:Int) 0∧StoreIs w' Far sb UA ts'∧Keeps Far w w':=by
 rcases h.way with ⟨_,h2,h3⟩ | ⟨h1,_⟩
 · exact ⟨h2,h3,h.keeps⟩
 · exact absurd hf h1
theorem Done.fit {Far:Nat→Prop} {sb:Nat} {UA:Int} {ts ts':List Tr} {t:Tr} {w w':World} {e:Ending} (h:Done Far sb UA ts ts' t w e w') (hf:Tr.Fits UA ts ts'):e=zLY (idT ts' t:Int) 0∧StoreIs w' Far sb UA ts'∧Keeps Far w w':=by
 rcases h.way with ⟨_,h2,h3⟩ | ⟨h1,_⟩
 · exact ⟨h2,h3,h.keeps⟩
 · exact absurd hf h1
theorem zBf {w w1 w2:World} {Far:Nat→Prop} (hb:Below w.heap.size w w1) (hk:Keeps Far w1 w2) (hf : ∀ k,k<w.heap.size→Far k):Below w.heap.size w w2 :=
 ⟨hk.os.trans hb.os,hk.tape.trans hb.tape,hk.output.trans hb.output,nlt hb.size hk.size,fun k h=>(hk.block k (hf k h) (nll h hb.size)).trans (hb.block k h)⟩
end
end Go.Proofs.YtfcbajmjaifjlaaGreat