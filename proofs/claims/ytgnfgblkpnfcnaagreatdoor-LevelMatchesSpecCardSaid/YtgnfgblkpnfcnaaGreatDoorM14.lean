/- Geo, Crop, Crop2, Bld: joined by program, for one claim. -/
import Derived.Test.YtgnfgblkpnfcnaaGreatDoorM13
set_option maxHeartbeats 1000000
set_option maxRecDepth 100000
set_option linter.unusedVariables false
set_option linter.unusedSimpArgs false
namespace Go.Proofs.YtgnfgblkpnfcnaaGreatDoor
section
open Go.Sort
theorem zBS {p:Pt} {b:Box} (h:inB p b=true):atB b (zY b p)=p:=by
 have he:=zFQ h;have hb:=zZ h;have h':=zX.1 h;unfold atB;rw [if_pos hb]
 have hi:zY b p=((p.z - b.lo.z) * (b.hi.y - b.lo.y)+(p.y - b.lo.y)) * (b.hi.x - b.lo.x)+(p.x - b.lo.x):=by
  unfold zY;rw [if_pos h,zw he];rfl
 rw [hi,zw he];simp only [Pt.sub];obtain ⟨px,py,pz⟩:=p;simp only at *
 have e1 : ∀ t sx dx:Int,0≤dx→dx<sx→(t * sx+dx) % sx=dx∧(t * sx+dx) / sx=t:=by
  intro t sx dx h1 h2;constructor
  · rw [Int.add_comm,Int.add_mul_emod_self_right,Int.emod_eq_of_lt h1 h2]
  · rw [Int.add_comm,Int.add_mul_ediv_right _ _ (by omega),Int.ediv_eq_zero_of_lt h1 h2];omega
 have f1:=e1 ((pz - b.lo.z) * (b.hi.y - b.lo.y)+(py - b.lo.y)) (b.hi.x - b.lo.x) (px - b.lo.x) (by omega) (by omega)
 have f2:=e1 (pz - b.lo.z) (b.hi.y - b.lo.y) (py - b.lo.y) (by omega) (by omega)
 rw [f1.1,f1.2,f2.1,f2.2];simp;omega
theorem zFW {b:Box} {x y z j:Int} (h:inB ⟨x,y,z⟩ b=true) (h':inB ⟨x+j,y,z⟩ b=true):zY b ⟨x+j,y,z⟩=zY b ⟨x,y,z⟩+j:=by
 unfold zY;rw [if_pos h,if_pos h'];simp only;omega
theorem zFO {p:Pt} {a b:Box}:inB p (zFn a b)=true ↔ inB p a=true∧inB p b=true:=by
 simp only [zX,zFn];omega
theorem zFP {p:Pt} {a b:Box} (h:inB p a=true) (h':inB p b=true):inB p (zf a b)=true∧zf a b=zFn a b:=by
 have hj:=zFO.2 ⟨h,h'⟩
 have e:zf a b=zFn a b:=by
  unfold zf;rw [if_neg (by rw [zFQ hj];decide)]
 exact ⟨by rw [e];exact hj,e⟩
theorem zHt {a b:Box} (h:zN (zf a b)=false):zf a b=zFn a b:=by
 unfold zf at h ⊢;split
 · rename_i he;rw [if_pos he] at h;exact absurd h (by decide)
 · rfl
def zF (b:Box) (xs:List Int) (p:Pt):Int:=if inB p b=true then xs.getD (zY b p).toNat 0 else 0
def cellsOf (b:Box) (f:Pt→Int):List Int:=(List.range (zAC b).toNat).map fun i:Nat=>f (atB b (i:Int))
theorem zI (b:Box) (f:Pt→Int):(cellsOf b f).length=(zAC b).toNat:=by simp [cellsOf]
theorem zCW {b:Box} {f:Pt→Int} {i:Nat} (h:i<(zAC b).toNat):(cellsOf b f)[i]? = some (f (atB b i)):=by
 unfold cellsOf;rw [List.getElem?_map,List.getElem?_range h];rfl
theorem zBU {b:Box} {i:Nat} (h:i<(zAC b).toNat):inB (atB b i) b=true∧zY b (atB b i)=i:=zBQ (by omega) (by omega)
theorem zCU {b:Box} {xs:List Int} (h:xs.length=(zAC b).toNat):cellsOf b (zF b xs)=xs:=by
 apply List.ext_getElem?;intro i;by_cases hi:i<(zAC b).toNat
 · rw [zCW hi];obtain ⟨h1,h2⟩:=zBU hi;unfold zF;rw [if_pos h1,h2,Int.toNat_natCast,List.getD_eq_getElem?_getD,List.getElem?_eq_getElem (by omega)];rfl
 · rw [List.getElem?_eq_none (by rw [zI];omega),List.getElem?_eq_none (by omega)]
theorem zCV {b:Box} {f g:Pt→Int} (h : ∀ p,inB p b=true→f p=g p):cellsOf b f=cellsOf b g:=by
 unfold cellsOf;apply List.map_congr_left;intro i hi;exact h _ (zBU (List.mem_range.1 hi)).1
def zJb (A B:Box) (xs ys:List Int):List Int:=cellsOf A fun p=>if inB p B=true then zF B ys p else zF A xs p
def zJR (A B:Box) (xs ys:List Int) (z y:Int):List Int:=cellsOf A fun p=>if inB p B=true∧(p.z<z∨(p.z=z∧p.y<y)) then zF B ys p else zF A xs p
theorem zJV {A B:Box} {xs ys:List Int} (h:xs.length=(zAC A).toNat):zJR A B xs ys (zf A B).lo.z (zf A B).lo.y=xs:=by
 refine Eq.trans (zCV fun p hp=>?_) (zCU h);refine if_neg fun ⟨h1,h2⟩=>?_;have:=zX.1 (zFP hp h1).1;omega
theorem zJS {A B:Box} {xs ys:List Int}:zJR A B xs ys (zf A B).hi.z (zf A B).lo.y=zJb A B xs ys:=by
 refine zCV fun p hp=>?_;by_cases h1:inB p B=true
 · have:=zX.1 (zFP hp h1).1;rw [if_pos h1,if_pos ⟨h1,by omega⟩]
 · rw [if_neg h1,if_neg (fun h=>h1 h.1)]
theorem zJT {A B:Box} {xs ys:List Int} {z:Int}:zJR A B xs ys z (zf A B).hi.y=zJR A B xs ys (z+1) (zf A B).lo.y:=by
 refine zCV fun p hp=>?_;by_cases h1:inB p B=true
 · have:=zX.1 (zFP hp h1).1;have e:(p.z<z∨p.z=z∧p.y<(zf A B).hi.y) ↔ (p.z<z+1∨p.z=z+1∧p.y<(zf A B).lo.y):=by omega
   simp only [e]
 · rw [if_neg (fun h=>h1 h.1),if_neg (fun h=>h1 h.1)]
theorem zLe {A B:Box} {la lb lc ld le lf z y:Int} (hM:zf A B=⟨⟨la,lb,lc⟩,⟨ld,le,lf⟩⟩) (hz:lc≤z∧z<lf) (hy:lb≤y∧y<le):la<ld ∧ ∀ j,0≤j→j<ld - la→inB ⟨la+j,y,z⟩ A=true∧inB ⟨la+j,y,z⟩ B=true:=by
 have hlt:la<ld:=by
  unfold zf at hM;split at hM
  · simp [Box.zero,Pt.zero] at hM;omega
  · rename_i he;have:=zO.1 (by simpa using he)
    rw [hM] at this;exact this.1
 refine ⟨hlt,fun j h1 h2=>?_⟩;have hne:zN (zf A B)=false:=by rw [hM,zO];simp only;omega
 rw [zHt hne] at hM;refine zFO.1 ?_;rw [hM,zX];simp only;omega
theorem zJU {A B:Box} {xs ys:List Int} {la lb lc ld le lf z y:Int} {k from_ n:Nat} (hM:zf A B=⟨⟨la,lb,lc⟩,⟨ld,le,lf⟩⟩) (hz:lc≤z∧z<lf) (hy:lb≤y∧y<le)
 (hk:zY A ⟨la,y,z⟩=(k:Int)) (hf:zY B ⟨la,y,z⟩=(from_:Int)) (hn:ld - la=(n:Int)) (hyl:ys.length=(zAC B).toNat) :
 1≤n∧from_+n≤ys.length∧k+n≤(zAC A).toNat∧over (zJR A B xs ys z y) k ((ys.drop from_).take n)=zJR A B xs ys z (y+1):=by
 obtain ⟨hlt,hrow⟩:=zLe hM hz hy;have hr0:=hrow 0 (by omega) (by omega)
 rw [Int.add_zero] at hr0
 have ka : ∀ j,0≤j→j<(n:Int)→zY A ⟨la+j,y,z⟩=(k:Int)+j:=fun j h1 h2=>by
  rw [zFW hr0.1 (hrow j h1 (by omega)).1,hk]
 have kb : ∀ j,0≤j→j<(n:Int)→zY B ⟨la+j,y,z⟩=(from_:Int)+j:=fun j h1 h2=>by
  rw [zFW hr0.2 (hrow j h1 (by omega)).2,hf]
 have e1:=zZ (hrow ((n:Int) - 1) (by omega) (by omega)).1
 have e2:=zZ (hrow ((n:Int) - 1) (by omega) (by omega)).2
 rw [ka _ (by omega) (by omega)] at e1
 rw [kb _ (by omega) (by omega)] at e2
 have hfn:from_+n≤ys.length:=by omega
 have hkn:k+n≤(zAC A).toNat:=by omega
 refine ⟨by omega,hfn,hkn,?_⟩
 have hcl:((ys.drop from_).take n).length=n:=by simp only [List.length_take,List.length_drop];omega
 have hpl:(zJR A B xs ys z y).length=(zAC A).toNat:=zI _ _;apply List.ext_getElem?;intro i;by_cases hi:i<(zAC A).toNat
 · obtain ⟨a1,a2⟩:=zBU hi;have hrhs:(zJR A B xs ys z (y+1))[i]? = _:=zCW hi;have hlhs:(zJR A B xs ys z y)[i]? = _:=zCW hi;rw [hrhs];unfold over splice;by_cases hin:k≤i∧i<k+n
   · -- in the row
     have hp:atB A i=⟨la+((i:Int) - k),y,z⟩:=by
      have:=zBS (hrow ((i:Int) - k) (by omega) (by omega)).1
      rw [ka _ (by omega) (by omega)] at this
      rw [show (k:Int)+((i:Int) - k)=i by omega] at this
      exact this
     have hB:=(hrow ((i:Int) - k) (by omega) (by omega)).2
     rw [hp,if_pos ⟨hB,Or.inr ⟨rfl,show y<y+1 by omega⟩⟩]
     unfold zF;rw [if_pos hB,kb _ (by omega) (by omega)]
     have hmin:(List.take k (zJR A B xs ys z y)).length=k:=by rw [List.length_take];omega
     have hik:i - k<((ys.drop from_).take n).length:=by omega
     rw [List.getElem?_append_right (by omega),hmin,List.getElem?_append_left hik,List.getElem?_take,if_pos (by omega),List.getElem?_drop]
     rw [show from_+(i - k)=((from_:Int)+((i:Int) - k)).toNat by omega,List.getD_eq_getElem?_getD,List.getElem?_eq_getElem (by omega)]
     rfl
   · have hl:(List.take k (zJR A B xs ys z y)++(List.take n (List.drop from_ ys)++List.drop (k+(List.take n (List.drop from_ ys)).length) (zJR A B xs ys z y)))[i]? = (zJR A B xs ys z y)[i]? := by
      rw [hcl];by_cases hik:i<k
      · rw [List.getElem?_append_left (by rw [List.length_take];omega),List.getElem?_take,if_pos hik]
      · rw [List.getElem?_append_right (by rw [List.length_take];omega),List.length_take,List.getElem?_append_right (by omega),List.getElem?_drop,hcl]
        congr 1;omega
     rw [hl,hlhs]
     congr 1
     by_cases hB:inB (atB A i) B=true
     · have hm:=zX.1 (zFP a1 hB).1;rw [hM] at hm;simp only at hm
       have hno : ¬((atB A i).z=z∧(atB A i).y=y):=by
        rintro ⟨h1,h2⟩
        have hp:atB A i=⟨la+((atB A i).x - la),y,z⟩:=by
         rw [←h1,←h2,show la+((atB A i).x - la)=(atB A i).x by omega]
        have:=ka ((atB A i).x - la) (by omega) (by omega)
        rw [←hp,a2] at this;omega
       have e:((atB A i).z<z∨(atB A i).z=z∧(atB A i).y<y) ↔ ((atB A i).z<z∨(atB A i).z=z∧(atB A i).y<y+1):=by omega
       simp only [e]
     · rw [if_neg (fun h=>hB h.1),if_neg (fun h=>hB h.1)]
 · rw [List.getElem?_eq_none (by rw [zI7 (by omega)];omega),List.getElem?_eq_none (by rw [show (zJR A B xs ys z (y+1)).length=_ from zI _ _];omega)]
end
section
open Go.RowKit Go.Sort
theorem Sl.grown {w w':World} {k:IntKind} {b off g:Nat} {xs:List Int} (h:Sl w k (some ⟨b,off,none⟩) xs) (hg:w.grownBy w' (some g)) (hne:b ≠ g):Sl w' k (some ⟨b,off,none⟩) xs:=by
 intro i x hx;obtain ⟨b',off',e,hc⟩:=h i x hx;refine ⟨b',off',e,?_⟩;injection e with e;injection e with e1 e2;subst e1 e2;have hlt:b<w.heap.size:=World.block_lt_of_cell? _ _ hc;exact (World.cell?_of_block (hg.block b hlt (fun e=>hne (by injection e)))).trans hc
theorem zHs {A B:Box} {la lb lc ld le lf:Int} (h:Small A 1048575) (hM:zf A B=⟨⟨la,lb,lc⟩,⟨ld,le,lf⟩⟩) :
 -1048576≤la ∧ -1048576≤lb ∧ -1048576≤lc∧ld≤1048576∧le≤1048576∧lf≤1048576∧la≤ld∧lb≤le∧lc≤lf:=by
 obtain ⟨s1,s2,s3,s4,s5,s6⟩:=h;unfold zf at hM;split at hM
 · simp [Box.zero,Pt.zero] at hM;omega
 · rename_i he;have he:=zO.1 (by simpa using he)
   rw [hM] at he;simp only [zFn,Box.mk.injEq,Pt.mk.injEq] at hM;simp only at he;omega
theorem Sl.any {w:World} {k:IntKind} {a a':Option Addr} (_h:Sl w k a []):Sl w k a' []:=Sl.nil _ _ _
theorem zJe (pg ph g N cap Bd:Nat) (a b c d e f a2 b2 c2 d2 e2 f2:Int) (gc:Value) (ha:Option Addr) (hcp:Nat) (xs ys:List Int) (w:World) (hSA:Small ⟨⟨a,b,c⟩,⟨d,e,f⟩⟩ 1048575) (hSB:Small ⟨⟨a2,b2,c2⟩,⟨d2,e2,f2⟩⟩ 1048575)
 (hxl:xs.length=(zAC ⟨⟨a,b,c⟩,⟨d,e,f⟩⟩).toNat) (hyl:ys.length=(zAC ⟨⟨a2,b2,c2⟩,⟨d2,e2,f2⟩⟩).toNat) (hN:N≤4194304) (hY:ys.length≤4194304) (hcap:ys.length≤hcp) (hag:0<ys.length → ∀ b off,ha=some ⟨b,off,none⟩→b ≠ g)
 (kg:Bk w pg #[a,b,c,d,e,f,gc] 28) (kh:Bk w ph #[a2,b2,c2,d2,e2,f2,.slice ha ys.length hcp] 28) (hx:Sl w .i64 ha ys) (ho:Own w Bd 3 .i64 (.slice (some ⟨g,0,none⟩) N cap) xs) (_hgp:g ≠ pg) (hgh:g ≠ ph) :
 Calls Tryz.prog 160 #[.slice (some ⟨g,0,none⟩) N cap,.pointer (some ⟨pg,0,none⟩),.pointer (some ⟨ph,0,none⟩)] w fun e' w'=>e' = .returned (.tuple #[])∧Own w' Bd 3 .i64 (.slice (some ⟨g,0,none⟩) N cap) (zJb ⟨⟨a,b,c⟩,⟨d,e,f⟩⟩ ⟨⟨a2,b2,c2⟩,⟨d2,e2,f2⟩⟩ xs ys)∧w.grownBy w' (some g):=by
 obtain ⟨⟨⟨la,lb,lc⟩,⟨ld,le,lf⟩⟩,hM⟩ : ∃ M,zf ⟨⟨a,b,c⟩,⟨d,e,f⟩⟩ ⟨⟨a2,b2,c2⟩,⟨d2,e2,f2⟩⟩=M:=⟨_,rfl⟩;have hgl:=(ho.lt g rfl).2;have hNl:xs.length=N:=ho.raw.choose_spec.2.2.2.2.2.2.symm;have hsz:=kg.lt;have hsz2:=kh.lt;have cg:=fun (j:Nat) v (h:(#[a,b,c,d,e,f,gc]:Array Value)[j]? = some v)=>(kg.alloc (.cells #[.slice (some ⟨g,0,none⟩) N cap] 26)).cell j h;have ch:=fun (j:Nat) v (h:(#[a2,b2,c2,d2,e2,f2,.slice ha ys.length hcp]:Array Value)[j]? = some v)=>(kh.alloc (.cells #[.slice (some ⟨g,0,none⟩) N cap] 26)).cell j h;have cg0:=cg 0 _ rfl;have ch0:=ch 0 _ rfl;have cg1:=cg 1 _ rfl;have ch1:=ch 1 _ rfl;have cg2:=cg 2 _ rfl;have ch2:=ch 2 _ rfl;have cg3:=cg 3 _ rfl;have ch3:=ch 3 _ rfl;have cg4:=cg 4 _ rfl;have ch4:=ch 4 _ rfl;have cg5:=cg 5 _ rfl;have ch5:=ch 5 _ rfl;have cg6:=cg 6 _ rfl;have ch6:=ch 6 _ rfl;clear cg ch;go_enter Tryz.func160,Tryz.ntmps160;go_wp2_with fail;generalize hW:World.alloc w _=W;have hb:=bl1 hW;have kb:Bk W w.heap.size #[.slice (some ⟨g,0,none⟩) N cap] 26:=bk0 hW rfl;clear hW cg0 ch0 cg1 ch1 cg2 ch2 cg3 ch3 cg4 ch4 cg5 ch5 cg6 ch6;have kh1:=kh.later hb;have ho1:=ho.below hb;have hx1:=hx.below hb;have hSz:=hb.size;have hSA':=hSA;obtain ⟨s1,s2,s3,s4,s5,s6⟩:=hSA';have hJ:=hM
 refine (zLj ph w.heap.size g a b c d e f a2 b2 c2 d2 e2 f2 la lb lc ld le lf gc hSA hM ?_
  (fun z y W'=>Own W' Bd 3 .i64 (.slice (some ⟨g,0,none⟩) N cap) (zJR ⟨⟨a,b,c⟩,⟨d,e,f⟩⟩ ⟨⟨a2,b2,c2⟩,⟨d2,e2,f2⟩⟩ xs ys z y)∧Bk W' ph #[a2,b2,c2,d2,e2,f2,.slice ha ys.length hcp] 28∧Bk W' w.heap.size #[.slice (some ⟨g,0,none⟩) N cap] 26∧Sl W' .i64 ha ys) W (by omega) ?_ ?_ ?_ ?_).mono ?_
 · exact zHs hSA hM
 · rintro z y W1 W2 ⟨h1,h2,h3,h4⟩ hb;exact ⟨h1.below hb,h2.later hb,h3.later hb,h4.below hb⟩
 · refine ⟨?_,kh1,kb,hx1⟩;have:=zJV (A:=⟨⟨a,b,c⟩,⟨d,e,f⟩⟩) (B:=⟨⟨a2,b2,c2⟩,⟨d2,e2,f2⟩⟩) (ys:=ys) hxl;rw [hM] at this;rw [this];exact ho1
 · rintro z y W1 z1 z2 y1 y2 ⟨h1,h2,h3,h4⟩ hgr;obtain ⟨hlt,hrow⟩:=zLe hM ⟨z1,z2⟩ ⟨y1,y2⟩;have hr0:=hrow 0 (by omega) (by omega)
   rw [Int.add_zero] at hr0;obtain ⟨k,hk⟩ : ∃ k:Nat,zY ⟨⟨a,b,c⟩,⟨d,e,f⟩⟩ ⟨la,y,z⟩=(k:Int):=⟨_,(Int.toNat_of_nonneg (zZ hr0.1).1).symm⟩;obtain ⟨from_,hf⟩ : ∃ k:Nat,zY ⟨⟨a2,b2,c2⟩,⟨d2,e2,f2⟩⟩ ⟨la,y,z⟩=(k:Int):=⟨_,(Int.toNat_of_nonneg (zZ hr0.2).1).symm⟩;obtain ⟨n,hn⟩ : ∃ n:Nat,ld - la=(n:Int):=⟨(ld - la).toNat,by omega⟩
   obtain ⟨p1,p2,p3,p4⟩:=zJU (xs:=xs) hM ⟨z1,z2⟩ ⟨y1,y2⟩ hk hf hn hyl;rw [hk,hn];refine (zLa ph w.heap.size g k n N cap la y z a2 b2 c2 d2 e2 f2 ha hcp ys _ hSB Bd from_ W1 hf p1 p2 (by omega) hN hY hcap h2 h3 h4 h1 hgh (by omega)).mono ?_
   rintro e' w3 ⟨rfl,h5,h6⟩;rw [p4] at h5;refine ⟨rfl,⟨h5,h2.grown h6 (Ne.symm hgh),h3.grown h6 (by omega),?_⟩,h6⟩
   obtain ⟨bb,oo,e,_⟩:=h4 from_ (ys[from_]'(by omega)) (by simp)
   subst e;exact h4.grown h6 (hag (by omega) _ _ rfl)
 · rintro z W1 z1 z2 ⟨h1,h2,h3,h4⟩;have:=zJT (A:=⟨⟨a,b,c⟩,⟨d,e,f⟩⟩) (B:=⟨⟨a2,b2,c2⟩,⟨d2,e2,f2⟩⟩) (xs:=xs) (ys:=ys) (z:=z);rw [hM] at this;rw [this] at h1;exact ⟨h1,h2,h3,h4⟩
 · rintro e' w2 ⟨rfl,⟨h1,h2,h3,h4⟩,h5⟩;have:=zJS (A:=⟨⟨a,b,c⟩,⟨d,e,f⟩⟩) (B:=⟨⟨a2,b2,c2⟩,⟨d2,e2,f2⟩⟩) (xs:=xs) (ys:=ys);rw [hM] at this;rw [this] at h1;go_wp2_with fail
   go_end0
   exact ⟨rfl,h1,(zEr ⟨hb.os,hb.tape,hb.output,hb.size,fun k hk _=>hb.block k hk⟩ h5)⟩
theorem zCg (pg ph:Nat) (a b c d e f a2 b2 c2 d2 e2 f2:Int) (ga ha:Option Addr) (gcap hcp:Nat) (xs ys:List Int) (w:World) (hSA:Small ⟨⟨a,b,c⟩,⟨d,e,f⟩⟩ 1048575) (hSB:Small ⟨⟨a2,b2,c2⟩,⟨d2,e2,f2⟩⟩ 1048575)
 (hxl:xs.length=(zAC ⟨⟨a,b,c⟩,⟨d,e,f⟩⟩).toNat) (hyl:ys.length=(zAC ⟨⟨a2,b2,c2⟩,⟨d2,e2,f2⟩⟩).toNat) (hX1:1≤xs.length) (hN:xs.length≤4194304) (hY:ys.length≤4194304) (hcap:ys.length≤hcp)
 (kg:Bk w pg #[a,b,c,d,e,f,.slice ga xs.length gcap] 28) (kh:Bk w ph #[a2,b2,c2,d2,e2,f2,.slice ha ys.length hcp] 28) (hx:Sl w .i64 ha ys) (hg:Sl w .i64 ga xs) :
 Calls Tryz.prog 159 #[.agg #[a,b,c,d,e,f,.slice ga xs.length gcap],.func (.func 160) #[] #[.pointer (some ⟨pg,0,none⟩),.pointer (some ⟨ph,0,none⟩)]] w
  fun e' w' => ∃ v,e' = .returned (.agg #[a,b,c,d,e,f,v])∧Own w' w.heap.size 3 .i64 v (zJb ⟨⟨a,b,c⟩,⟨d,e,f⟩⟩ ⟨⟨a2,b2,c2⟩,⟨d2,e2,f2⟩⟩ xs ys)∧Below w.heap.size w w':=by
 have hpg:=kg.lt;have hph:=kh.lt;have hcl:=Bx.mk fun W h=>zMF ga gcap xs W (by omega) h
 have hclo:=Bx.mk fun Bd g N cap W h1 h2 h3 h4 h5 h6 h7 h8=>zJe pg ph g N cap Bd a b c d e f a2 b2 c2 d2 e2 f2 (.slice ga xs.length gcap) ha hcp xs ys W hSA hSB hxl hyl h8 hY hcap h1 h2 h3 h4 h5 h6 h7
 have hab:0<ys.length → ∀ b off,ha=some ⟨b,off,none⟩→b<w.heap.size:=fun h b off e=>by
  subst e;obtain ⟨b',off',e,hc⟩:=hx 0 (ys[0]'h) (by simp)
  injection e with e;injection e with e1 e2;subst e1 e2;exact World.block_lt_of_cell? _ _ hc
 have Hab:=Bx.mk hab;have Hx:=Bx.mk hx;have Hg:=Bx.mk hg;have Kg:=Bx.mk kg;have Kh:=Bx.mk kh;clear hab hx hg kg kh hSA hSB hxl hyl hY hcap;go_enter Tryz.func159,Tryz.ntmps159;go_wp2_with fail;generalize hW:World.alloc (World.alloc w _) _=W;have hSz:=sz2 hW;have hB:=bl2 hW;have kr:Bk W (w.heap.size) #[a,b,c,d,e,f,.slice ga xs.length gcap] 28:=bk1 hW;have kq:Bk W (w.heap.size+1) #[(0:Int),(0:Int),(0:Int),(0:Int),(0:Int),(0:Int),.slice none 0 0] 28:=bk0 hW;clear hW;obtain ⟨cr0,cr1,cr2,cr3,cr4,cr5,cr6⟩:=kr.c7;go_wp2_with fail;refine (hcl.out _ (Hg.out.below hB)).mono ?_;rintro e' w1 ⟨v,rfl,ho,hb⟩;clear hcl;obtain ⟨Bd,hBd⟩ : ∃ Bd,Bd=W.heap.size:=⟨_,rfl⟩;rw [←hBd] at ho hb;have hSd:w.heap.size+2≤Bd:=by omega
 replace hb:Below W.heap.size W w1:=hBd ▸ hb;clear cr0 cr1 cr2 cr3 cr4 cr5 cr6;replace hB:=hB.trans (hb.mono hB.size);replace kr:=kr.later hb;replace kq:=kq.later hb;replace hSz:=Nat.le_trans hSz hb.size;clear hb;obtain ⟨g,cap,rfl,hg1,hg2,-,-,-⟩:=ho.at (by omega)
 go_wp2_with fail;refine (hclo.out Bd g xs.length cap w1 (fun h b off e=>by have:=Hab.out h b off e;omega) (Kg.out.later hB) (Kh.out.later hB) (Hx.out.below hB) ho (by omega) (by omega) hN).mono ?_
 rintro e' w3 ⟨rfl,h1,hgr⟩;clear hclo;replace hB:=hB.grown hgr hB.size (fun k hk=>by injection hk;omega)
 replace kr:=kr.grown hgr (by omega)
 replace kq:=kq.grown hgr (by omega)
 have H1:=Bx.mk h1;clear h1 hgr ho hg1 hg2 Hg Hx Kg Kh Hab;obtain ⟨cr0,cr1,cr2,cr3,cr4,cr5,cr6⟩:=kr.c7;obtain ⟨cq0,cq1,cq2,cq3,cq4,cq5,cq6⟩:=kq.c7;obtain ⟨fq0,fq1,fq2,fq3,fq4,fq5,fq6⟩:=kq.f7;go_wp2_with fail;replace kq:=kq.put7 (.int .i64 a) (.int .i64 b) (.int .i64 c) (.int .i64 d) (.int .i64 e) (.int .i64 f) (.slice (some ⟨g,0,none⟩) xs.length cap);exact bodyPost_ret (v:=.agg #[a,b,c,d,e,f,.slice (some ⟨g,0,none⟩) xs.length cap]) (results_cell_row rfl _ _ _ 28 #[a,b,c,d,e,f,.slice (some ⟨g,0,none⟩) xs.length cap] (0,0) _ rfl kq Tryz.underlying28 rfl (by kernel_rfl)) rfl ⟨_,rfl,(((((((H1.out.setBelow (by simp;omega) _).setBelow (by simp;omega) _).setBelow (by simp;omega) _).setBelow (by simp;omega) _).setBelow (by simp;omega) _).setBelow (by simp;omega) _).setBelow (by simp;omega) _).base (by omega),zBj hB (by omega) _ _ _ _ _ _ _⟩
def RetG1 (a b c d e f:Int) (n:Nat) (zs:List Int) (w:World) (E:Ending) (w':World):Prop :=
 ∃ pa pc,E = .returned (.agg #[a,b,c,d,e,f,.slice pa n pc])∧n=zs.length∧Own w' w.heap.size 3 .i64 (.slice pa n pc) zs∧Below w.heap.size w w'
theorem zJc (A B:Box) (xs ys:List Int):(zJb A B xs ys).length=(zAC A).toNat:=zI _ _
theorem zJd (a b c d e f a2 b2 c2 d2 e2 f2:Int) (ga ha:Option Addr) (gcap hcp:Nat) (xs ys:List Int) (w:World) (hSA:Small ⟨⟨a,b,c⟩,⟨d,e,f⟩⟩ 1048575) (hSB:Small ⟨⟨a2,b2,c2⟩,⟨d2,e2,f2⟩⟩ 1048575)
 (hxl:xs.length=(zAC ⟨⟨a,b,c⟩,⟨d,e,f⟩⟩).toNat) (hyl:ys.length=(zAC ⟨⟨a2,b2,c2⟩,⟨d2,e2,f2⟩⟩).toNat) (hX1:1≤xs.length) (hN:xs.length≤4194304) (hY:ys.length≤4194304) (hcap:ys.length≤hcp)
 (hx:Sl w .i64 ha ys) (hg:Sl w .i64 ga xs) :
 Calls Tryz.prog 132 #[.agg #[a,b,c,d,e,f,.slice ga xs.length gcap],.agg #[a2,b2,c2,d2,e2,f2,.slice ha ys.length hcp]] w (RetG1 a b c d e f xs.length (zJb ⟨⟨a,b,c⟩,⟨d,e,f⟩⟩ ⟨⟨a2,b2,c2⟩,⟨d2,e2,f2⟩⟩ xs ys) w):=by
 have hch:=Bx.mk fun pg ph W h1 h2 h3 h4=>zCg pg ph a b c d e f a2 b2 c2 d2 e2 f2 ga ha gcap hcp xs ys W hSA hSB hxl hyl hX1 hN hY hcap h1 h2 h3 h4;have hlen:=Bx.mk (hxl.trans (zJc ⟨⟨a,b,c⟩,⟨d,e,f⟩⟩ ⟨⟨a2,b2,c2⟩,⟨d2,e2,f2⟩⟩ xs ys).symm);have Hx:=Bx.mk hx;have Hg:=Bx.mk hg;clear hSA hSB hxl hyl hY hcap hX1 hN hx hg;go_enter Tryz.func132,Tryz.ntmps132;go_wp2_with fail;generalize hW:World.alloc (World.alloc (World.alloc w _) _) _=W;have hSz:=sz3 hW;have hB:=bl3 hW;have kg:Bk W (w.heap.size) #[a,b,c,d,e,f,.slice ga xs.length gcap] 28:=bk2 hW;have kh:Bk W (w.heap.size+1) #[a2,b2,c2,d2,e2,f2,.slice ha ys.length hcp] 28:=bk1 hW;have kr:Bk W (w.heap.size+1+1) #[(0:Int),(0:Int),(0:Int),(0:Int),(0:Int),(0:Int),.slice none 0 0] 28:=bk0 hW;clear hW;obtain ⟨cg0,cg1,cg2,cg3,cg4,cg5,cg6⟩:=kg.c7;go_wp2_with fail;refine (hch.out _ _ _ kg kh (Hx.out.below hB) (Hg.out.below hB)).mono ?_;rintro e' w1 ⟨v,rfl,ho,hb⟩;obtain ⟨Bd,hBd⟩ : ∃ Bd,Bd=W.heap.size:=⟨_,rfl⟩;rw [←hBd] at ho hb;have hSd:w.heap.size+3≤Bd:=by omega
 replace hb:Below W.heap.size W w1:=hBd ▸ hb;clear hch Hx Hg;clear cg0 cg1 cg2 cg3 cg4 cg5 cg6;replace hB:=hB.trans (hb.mono hB.size);replace kg:=kg.later hb;replace kh:=kh.later hb;replace kr:=kr.later hb;replace hSz:=Nat.le_trans hSz hb.size;clear hb;obtain ⟨pa,pc,rfl,-⟩:=ho.form;rw [←hlen.out] at ho;rw [←hlen.out];have Ho:=Bx.mk ho;clear ho;obtain ⟨cr0,cr1,cr2,cr3,cr4,cr5,cr6⟩:=kr.c7;obtain ⟨fr0,fr1,fr2,fr3,fr4,fr5,fr6⟩:=kr.f7;go_wp2_with fail;replace kr:=kr.put7 (.int .i64 a) (.int .i64 b) (.int .i64 c) (.int .i64 d) (.int .i64 e) (.int .i64 f) (.slice pa xs.length pc);exact bodyPost_ret (v:=.agg #[a,b,c,d,e,f,.slice pa xs.length pc]) (results_cell_row rfl _ _ _ 28 #[a,b,c,d,e,f,.slice pa xs.length pc] (0,0) _ rfl kr Tryz.underlying28 rfl (by kernel_rfl)) rfl ⟨_,_,rfl,hlen.out,(((((((Ho.out.setBelow (by simp;omega) _).setBelow (by simp;omega) _).setBelow (by simp;omega) _).setBelow (by simp;omega) _).setBelow (by simp;omega) _).setBelow (by simp;omega) _).setBelow (by simp;omega) _).base (by omega),zBj hB (by omega) _ _ _ _ _ _ _⟩
theorem zC8 {A B:Box} {ys:List Int} {n:Nat} (_hn:(zAC A).toNat=n):zJb A B (List.replicate n 0) ys=cellsOf A (zF B ys):=by
 refine zCV fun p hp=>?_;split
 · rfl
 · rename_i h;have e:zF B ys p=0:=by unfold zF;rw [if_neg h]
   rw [e];unfold zF;rw [if_pos hp,List.getD_eq_getElem?_getD,List.getElem?_replicate];split <;> rfl
theorem zC7 (a b c d e f a2 b2 c2 d2 e2 f2:Int) (ha:Option Addr) (hcp n:Nat) (ys:List Int) (h0:zIE ⟨⟨a,b,c⟩,⟨d,e,f⟩⟩ 0=0) (hem:zN ⟨⟨a,b,c⟩,⟨d,e,f⟩⟩=false) (hn:zAC ⟨⟨a,b,c⟩,⟨d,e,f⟩⟩=(n:Int)) (hSB:Small ⟨⟨a2,b2,c2⟩,⟨d2,e2,f2⟩⟩ 1048575)
 (hyl:ys.length=(zAC ⟨⟨a2,b2,c2⟩,⟨d2,e2,f2⟩⟩).toNat) (hY:ys.length≤4194304) (hcap:ys.length≤hcp) (w:World) (hx:Sl w .i64 ha ys) :
 Calls Tryz.prog 84 #[.agg #[a2,b2,c2,d2,e2,f2,.slice ha ys.length hcp],.agg #[a,b,c,d,e,f]] w (RetG a b c d e f (cellsOf ⟨⟨a,b,c⟩,⟨d,e,f⟩⟩ (zF ⟨⟨a2,b2,c2⟩,⟨d2,e2,f2⟩⟩ ys)) 0 w):=by
 have hok:okB ⟨⟨a,b,c⟩,⟨d,e,f⟩⟩=true∧zAC ⟨⟨a,b,c⟩,⟨d,e,f⟩⟩≤2097152:=by
  unfold zIE at h0;split at h0
  · cases h0
  · rename_i h1;split at h0
    · cases h0
    · exact ⟨by cases h:okB ⟨⟨a,b,c⟩,⟨d,e,f⟩⟩ <;> simp_all,by omega⟩
 have hnn:(zAC ⟨⟨a,b,c⟩,⟨d,e,f⟩⟩).toNat=n:=by omega
 have hpos:=zBR hem;have hc:=Bx.mk fun W=>zIG a b c d e f 0 h0 hem n hn W;have hp:=Bx.mk fun pa pc W h1 h2=>zJd a b c d e f a2 b2 c2 d2 e2 f2 pa ha pc hcp (List.replicate n 0) ys W (zk hok.1) hSB (by rw [List.length_replicate,hnn]) hyl (by rw [List.length_replicate];omega) (by rw [List.length_replicate];omega) hY hcap h1 h2
 rw [zC8 hnn,List.length_replicate] at hp;have hz:=Bx.mk ((zI ⟨⟨a,b,c⟩,⟨d,e,f⟩⟩ (zF ⟨⟨a2,b2,c2⟩,⟨d2,e2,f2⟩⟩ ys)).trans hnn);have Hx:=Bx.mk hx;clear h0 hem hn hSB hyl hY hcap hx hok hpos hnn;generalize cellsOf ⟨⟨a,b,c⟩,⟨d,e,f⟩⟩ (zF ⟨⟨a2,b2,c2⟩,⟨d2,e2,f2⟩⟩ ys)=zs at *;go_enter Tryz.func84,Tryz.ntmps84;go_wp2_with fail;generalize hW:World.alloc (World.alloc (World.alloc w _) _) _=W;have hSz:=sz3 hW;have hB:=bl3 hW;have kh:Bk W (w.heap.size) #[a2,b2,c2,d2,e2,f2,.slice ha ys.length hcp] 28:=bk2 hW;have kb:Bk W (w.heap.size+1) #[a,b,c,d,e,f] 25:=bk1 hW;have kr:Bk W (w.heap.size+1+1) #[(0:Int),(0:Int),(0:Int),(0:Int),(0:Int),(0:Int),.slice none 0 0] 28:=bk0 hW;clear hW;obtain ⟨cb0,cb1,cb2,cb3,cb4,cb5⟩:=kb.c6;go_wp2_with fail;refine (hc.out _).mono ?_;rintro e' w1 ⟨pa,pc,rfl,ho,hb1⟩;rw [List.length_replicate] at ho ⊢;have hx1:=(Hx.out.below hB).below hb1;obtain ⟨Bd,hBd⟩ : ∃ Bd,Bd=W.heap.size:=⟨_,rfl⟩;rw [←hBd] at ho;have hSd:w.heap.size+3≤Bd:=by omega
 clear hc Hx hBd;clear cb0 cb1 cb2 cb3 cb4 cb5;replace hB:=hB.trans (hb1.mono hB.size);replace kh:=kh.later hb1;replace kb:=kb.later hb1;replace kr:=kr.later hb1;replace hSz:=Nat.le_trans hSz hb1.size;clear hb1;go_upto_region 2 with fail;obtain ⟨go,hgo⟩ : ∃ go,go=w1.heap.size:=⟨_,rfl⟩;generalize hW2:World.alloc w1 _=W2;have hb2:=bl1 hW2;have ko:Bk W2 go #[a,b,c,d,e,f,.slice pa n pc] 28:=by rw [hgo,←hW2];exact zD _ _ _ rfl
 have hx2:=hx1.below hb2;have ho2:=ho.sl.below hb2;rw [←hgo];have hgl:w.heap.size≤go:=by omega
 clear hW2 ho hx1;replace hB:=hB.trans (hb2.mono hB.size);replace kh:=kh.later hb2;replace kb:=kb.later hb2;replace kr:=kr.later hb2;replace hSz:=Nat.le_trans hSz hb2.size;clear hb2;obtain ⟨ch0,ch1,ch2,ch3,ch4,ch5,ch6⟩:=kh.c7;obtain ⟨co0,co1,co2,co3,co4,co5,co6⟩:=ko.c7;clear hgo;have Hx:=Bx.mk hx2;have Ho:=Bx.mk ho2;clear hx2 ho2;go_wp2_with fail;refine (hp.out pa pc _ Hx.out Ho.out).mono ?_;rintro e' w3 ⟨qa,qc,rfl,-,hown,hb3⟩;obtain ⟨Be,hBe⟩ : ∃ Be,Be=W2.heap.size:=⟨_,rfl⟩;rw [←hBe] at hown;have hSe:w.heap.size+3≤Be:=by omega
 have Ho2:=Bx.mk hown;clear hown hBe hp Hx Ho;clear ch0 ch1 ch2 ch3 ch4 ch5 ch6 co0 co1 co2 co3 co4 co5 co6;replace hB:=hB.trans (hb3.mono hB.size);replace kh:=kh.later hb3;replace kb:=kb.later hb3;replace kr:=kr.later hb3;replace hSz:=Nat.le_trans hSz hb3.size;clear hb3;obtain ⟨cr0,cr1,cr2,cr3,cr4,cr5,cr6⟩:=kr.c7;obtain ⟨fr0,fr1,fr2,fr3,fr4,fr5,fr6⟩:=kr.f7;go_wp2_with fail;replace kr:=kr.put7 (.int .i64 a) (.int .i64 b) (.int .i64 c) (.int .i64 d) (.int .i64 e) (.int .i64 f) (.slice qa n qc);obtain ⟨z0,z1,z2,z3,z4,z5,z6⟩:=kr.c7
 exact bodyPost_ret (v:=.tuple #[.agg #[a,b,c,d,e,f,.slice qa n qc],(0:Int)]) (by simp [results,Tryz.results84,go_sem,z0,z1,z2,z3,z4,z5,z6]) rfl ⟨qa,qc,by rw [hz.out],by
  rw [hz.out];exact (((((((Ho2.out.setBelow (by simp;omega) _).setBelow (by simp;omega) _).setBelow (by simp;omega) _).setBelow (by simp;omega) _).setBelow (by simp;omega) _).setBelow (by simp;omega) _).setBelow (by simp;omega) _).base (by omega),zBj hB (by omega) _ _ _ _ _ _ _⟩
end
section
open Go.RowKit Go.Sort Go.Maps
open Oct
structure BCtx (w:World) (Far:Nat→Prop) (pg ps pb sb:Nat) (a b c d e f:Int) (ha:Option Addr) (hcp:Nat) (xs:List Int):Prop where
 kg:Bk w pg #[a,b,c,d,e,f,.slice ha xs.length hcp] 28
 kr:Bk w ps #[.pointer (some ⟨sb,0,none⟩)] 31
 kb:Bk w pb #[.func (.func 82) #[] #[.pointer (some ⟨pg,0,none⟩),.pointer (some ⟨ps,0,none⟩),.pointer (some ⟨pb,0,none⟩)]] 123
 fg:Far pg
 fr:Far ps
 fb:Far pb
 sl:Sl w .i64 ha xs
 fx:xs ≠ [] → ∀ b,ha.map (·.block)=some b→Far b
theorem Sl.far {w w':World} {Far:Nat→Prop} {k:IntKind} {ha:Option Addr} {xs:List Int} (h:Sl w k ha xs) (hk:Keeps Far w w') (hf:xs ≠ [] → ∀ b,ha.map (·.block)=some b→Far b):Sl w' k ha xs:=by
 intro i x hx;obtain ⟨b,off,rfl,hc⟩:=h i x hx;refine ⟨b,off,rfl,?_⟩;have hlt:=World.block_lt_of_cell? w _ hc;rw [World.cell?_of_block (hk.block b (hf (by rintro rfl;simp at hx) b rfl) hlt)];exact hc
section
variable {w w':World} {Far Far':Nat→Prop} {pg ps pb sb:Nat} {a b c d e f:Int} {ha:Option Addr} {hcp:Nat} {xs:List Int}
theorem BCtx.far (h:BCtx w Far pg ps pb sb a b c d e f ha hcp xs) (hk:Keeps Far w w'):BCtx w' Far pg ps pb sb a b c d e f ha hcp xs :=
 ⟨h.kg.far hk h.fg,h.kr.far hk h.fr,h.kb.far hk h.fb,h.fg,h.fr,h.fb,h.sl.far hk h.fx,h.fx⟩
theorem BCtx.later (h:BCtx w Far pg ps pb sb a b c d e f ha hcp xs) (hb:Below w.heap.size w w'):BCtx w' Far pg ps pb sb a b c d e f ha hcp xs:=h.far (Keeps.below hb)
theorem BCtx.wider (h:BCtx w Far pg ps pb sb a b c d e f ha hcp xs) (hf : ∀ k,Far k→Far' k):BCtx w Far' pg ps pb sb a b c d e f ha hcp xs :=
 ⟨h.kg,h.kr,h.kb,hf _ h.fg,hf _ h.fr,hf _ h.fb,h.sl,fun hx b hb=>hf _ (h.fx hx b hb)⟩
end
theorem zBo (w:World) (Far:Nat→Prop) (pg ps pb sb:Nat) (a b c d e f:Int) (ha:Option Addr) (hcp:Nat) (xs:List Int) (HC:Bx (BCtx w Far pg ps pb sb a b c d e f ha hcp xs)) (n:Nat) (hn:n≤12) (ax ay az m:Int) (hm:m=2 ^ (n+2)) (hx:0≤ax∧ax≤16384) (hy:0≤ay∧ay≤16384) (hz:0≤az∧az≤16384) (he:zN (zf ⟨⟨ax,ay,az⟩,⟨ax+m,ay+m,az+m⟩⟩ ⟨⟨a,b,c⟩,⟨d,e,f⟩⟩)=true) (most:Int) (ts:List Tr) (hG:Good ts) (hlen:ts.length≤1000000000000) (hFar : ∀ k,Far k→k<w.heap.size) (hS:StoreIs w Far sb most ts) :
 Calls Tryz.prog 82 #[.agg #[ax,ay,az],.int .i64 ((n:Int)+2),.pointer (some ⟨pg,0,none⟩),.pointer (some ⟨ps,0,none⟩),.pointer (some ⟨pb,0,none⟩)] w (Grew Far sb most ts (Tr.add (.uni 0) ts) (.uni 0) w):=by
 have hcube:=Bx.mk (fun W=>zDD (n+2) (by omega) ax ay az m hm (by omega) (by omega) (by omega) W)
 rw [show ((n+2:Nat):Int)=(n:Int)+2 by omega] at hcube
 have hmeet:=Bx.mk (fun W=>zHr ax ay az (ax+m) (ay+m) (az+m) a b c d e f W);have hempty:=Bx.mk (fun W=>zP (zf ⟨⟨ax,ay,az⟩,⟨ax+m,ay+m,az+m⟩⟩ ⟨⟨a,b,c⟩,⟨d,e,f⟩⟩).lo.x (zf ⟨⟨ax,ay,az⟩,⟨ax+m,ay+m,az+m⟩⟩ ⟨⟨a,b,c⟩,⟨d,e,f⟩⟩).lo.y (zf ⟨⟨ax,ay,az⟩,⟨ax+m,ay+m,az+m⟩⟩ ⟨⟨a,b,c⟩,⟨d,e,f⟩⟩).lo.z (zf ⟨⟨ax,ay,az⟩,⟨ax+m,ay+m,az+m⟩⟩ ⟨⟨a,b,c⟩,⟨d,e,f⟩⟩).hi.x (zf ⟨⟨ax,ay,az⟩,⟨ax+m,ay+m,az+m⟩⟩ ⟨⟨a,b,c⟩,⟨d,e,f⟩⟩).hi.y (zf ⟨⟨ax,ay,az⟩,⟨ax+m,ay+m,az+m⟩⟩ ⟨⟨a,b,c⟩,⟨d,e,f⟩⟩).hi.z W);rw [show (⟨⟨(zf ⟨⟨ax,ay,az⟩,⟨ax+m,ay+m,az+m⟩⟩ ⟨⟨a,b,c⟩,⟨d,e,f⟩⟩).lo.x,(zf ⟨⟨ax,ay,az⟩,⟨ax+m,ay+m,az+m⟩⟩ ⟨⟨a,b,c⟩,⟨d,e,f⟩⟩).lo.y,(zf ⟨⟨ax,ay,az⟩,⟨ax+m,ay+m,az+m⟩⟩ ⟨⟨a,b,c⟩,⟨d,e,f⟩⟩).lo.z⟩,⟨(zf ⟨⟨ax,ay,az⟩,⟨ax+m,ay+m,az+m⟩⟩ ⟨⟨a,b,c⟩,⟨d,e,f⟩⟩).hi.x,(zf ⟨⟨ax,ay,az⟩,⟨ax+m,ay+m,az+m⟩⟩ ⟨⟨a,b,c⟩,⟨d,e,f⟩⟩).hi.y,(zf ⟨⟨ax,ay,az⟩,⟨ax+m,ay+m,az+m⟩⟩ ⟨⟨a,b,c⟩,⟨d,e,f⟩⟩).hi.z⟩⟩:Box)=zf ⟨⟨ax,ay,az⟩,⟨ax+m,ay+m,az+m⟩⟩ ⟨⟨a,b,c⟩,⟨d,e,f⟩⟩ from rfl,he] at hempty;generalize zf ⟨⟨ax,ay,az⟩,⟨ax+m,ay+m,az+m⟩⟩ ⟨⟨a,b,c⟩,⟨d,e,f⟩⟩=M at *;have hu:=Bx.mk (fun W (hb:Below w.heap.size w W)=>zNm W Far sb most ts 0 (by omega) hG hlen (fun k hk=>Nat.lt_of_lt_of_le (hFar k hk) hb.size) (hS.later hb))
 clear he hm hx hy hz hG hlen hFar hS;go_enter Tryz.func82,Tryz.ntmps82;go_wp2_with fail;generalize hW:World.alloc w _=W;have hSz:=sz1 hW;have hB:=bl1 hW;have kp:Bk W (w.heap.size) #[ax,ay,az] 23:=bk0 hW;clear hW;refine (hcube.out _).mono ?_;rintro e1 w1 ⟨rfl,hb⟩;replace hB:=hB.trans (hb.mono hB.size);replace kp:=kp.later hb;replace hSz:=Nat.le_trans hSz hb.size;clear hb;have hcg:=HC.out.later hB;have hsz1:=hB.size;have kp1:=Bx.mk kp;have ag : ∀ o,Bk (w1.alloc o) pg #[a,b,c,d,e,f,.slice ha xs.length hcp] 28:=fun o=>hcg.kg.alloc o;have ag0 : ∀ o,(w1.alloc o).cell? ⟨pg,0,none⟩=some (.int .i64 a):=fun o=>(ag o).cell 0 rfl;have ag1 : ∀ o,(w1.alloc o).cell? ⟨pg,1,none⟩=some (.int .i64 b):=fun o=>(ag o).cell 1 rfl;have ag2 : ∀ o,(w1.alloc o).cell? ⟨pg,2,none⟩=some (.int .i64 c):=fun o=>(ag o).cell 2 rfl;have ag3 : ∀ o,(w1.alloc o).cell? ⟨pg,3,none⟩=some (.int .i64 d):=fun o=>(ag o).cell 3 rfl;have ag4 : ∀ o,(w1.alloc o).cell? ⟨pg,4,none⟩=some (.int .i64 e):=fun o=>(ag o).cell 4 rfl;have ag5 : ∀ o,(w1.alloc o).cell? ⟨pg,5,none⟩=some (.int .i64 f):=fun o=>(ag o).cell 5 rfl;clear ag hcg;go_wp2_with fail;generalize hW2:World.alloc w1 _=W2;have hb2:Below w1.heap.size w1 W2:=by rw [←hW2];exact zB _ _
 have kc:Bk W2 w1.heap.size #[ax,ay,az,.int .i64 (ax+m),.int .i64 (ay+m),.int .i64 (az+m)] 25:=bk0 hW2 rfl;clear hW2 ag0 ag1 ag2 ag3 ag4 ag5;replace kp1:=Bx.mk (kp1.out.later hb2);replace hB:=hB.trans (hb2.mono hB.size);have hgc:w.heap.size+1≤w1.heap.size:=hSz;clear kp hb2 hSz hsz1;generalize w1.heap.size=gc at *;refine (hmeet.out _).mono ?_;rintro e2 w2 ⟨rfl,hb⟩;replace kc:=kc.later hb;replace kp1:=Bx.mk (kp1.out.later hb);replace hB:=hB.trans (hb.mono hB.size);clear hb;go_wp2_with fail;refine (hempty.out _).mono ?_;rintro e3 w3 ⟨rfl,hb⟩;replace kc:=kc.later hb;replace kp1:=Bx.mk (kp1.out.later hb);replace hB:=hB.trans (hb.mono hB.size);clear hb hcube hmeet hempty;have hC3:=HC.out.later hB;have cr:=hC3.kr.cell 0 rfl;clear hC3 kp1;go_wp2_with fail;refine (hu.out _ hB).mono ?_;rintro e4 w4 hg;have Hg:=Bx.mk (hg.since hB);obtain ⟨-,-,(⟨hf,rfl,hs⟩ | ⟨hf,rfl,us,hs⟩)⟩:=hg
 all_goals
  clear hf hs;go_wp2_with fail
  go_ret2
  exact Hg.out
end
end Go.Proofs.YtgnfgblkpnfcnaaGreatDoor
