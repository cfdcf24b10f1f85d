/- Rst, Tw5, Tgr, Tdf, Df1, Df2, Nd1: joined by program, for one claim. -/
import Derived.Test.YtfcbajmjaifjlaaGreatDoorM20
import Derived.Deep.CutRange
set_option maxHeartbeats 4000000
set_option maxRecDepth 100000
set_option linter.unusedVariables false
set_option linter.unusedSimpArgs false
namespace Go.Proofs.YtfcbajmjaifjlaaGreatDoor
section
open Go.RowKit Go.Sort Go.Maps
open Oct
theorem zGk (h:Nat) (hh:h≤14) (px py pz:Int) (i:Nat) (hi:i<8) (hx:0≤px∧px≤100000) (hy:0≤py∧py≤100000) (hz:0≤pz∧pz≤100000) (w:World) :
 Calls Tryz.prog 131 #[.agg #[px,py,pz],.int .i64 ((h:Int)+1),(i:Int)] w fun e w'=>e = .returned (.agg #[.int .i64 (px+chX i (2 ^ h)),.int .i64 (py+chY i (2 ^ h)),.int .i64 (pz+chZ i (2 ^ h))])∧Below w.heap.size w w':=by
 have hsd:=fun W=>zG3 h hh W;have hp:=zV hh;generalize hm:(2:Int) ^ h=m at *;obtain ⟨bx,by',bz⟩:=zMJ hi (show 0≤m by omega)
 have e1:(i:Int) % 2 * m=chX i m:=by unfold chX;rw [Int.natCast_emod];rfl
 have e2:(i:Int) / 2 % 2 * m=chY i m:=by unfold chY;rw [Int.natCast_emod,Int.natCast_ediv];rfl
 have e3:(i:Int) / 4 * m=chZ i m:=by unfold chZ;rw [Int.natCast_ediv];rfl
 have w1:IntKind.i64.wrap ((i:Int) % 2 * m)=chX i m:=by rw [e1];exact IntWalk.i64_in _ (by omega)
 have w2:IntKind.i64.wrap ((i:Int) / 2 % 2 * m)=chY i m:=by rw [e2];exact IntWalk.i64_in _ (by omega)
 have w3:IntKind.i64.wrap ((i:Int) / 4 * m)=chZ i m:=by rw [e3];exact IntWalk.i64_in _ (by omega)
 generalize chX i m=cx at *;generalize chY i m=cy at *;generalize chZ i m=cz at *;have hsub:IntKind.i64.wrap ((h:Int)+1 - 1)=(h:Int):=by rw [show (h:Int)+1 - 1=h by omega];exact IntWalk.i64_in _ (by omega)
 have hsd:=Bx.mk hsd;have b1:(0:Int)≤(i:Int):=by omega
 have b2:(i:Int)<8:=by omega
 have t1:=IntWalk.i64_in (px+cx) (by omega)
 have t2:=IntWalk.i64_in (py+cy) (by omega)
 have t3:=IntWalk.i64_in (pz+cz) (by omega)
 clear hm e1 e2 e3 hx hy hz bx by' bz hi
 go_enter Tryz.func131,Tryz.ntmps131;go_wp2_with fail;generalize hW:World.alloc (World.alloc w _) _=W;have hSz:=sz2 hW;have hB:=bl2 hW;have kp:Bk W (w.heap.size) #[px,py,pz] 23:=bk1 hW;have kr:Bk W (w.heap.size+1) #[(0:Int),(0:Int),(0:Int)] 23:=bk0 hW;clear hW;refine (hsd.out _).mono ?_;rintro _ _ ⟨rfl,rfl⟩;obtain ⟨cp0,cp1,cp2⟩:=kp.c3;obtain ⟨cr0,cr1,cr2⟩:=kr.c3;obtain ⟨fr0,fr1,fr2⟩:=kr.f3;go_wp2_with fail;replace kr:=kr.put3 (.int .i64 (px+cx)) (.int .i64 (py+cy)) (.int .i64 (pz+cz));exact bodyPost_ret (v:=.agg #[.int .i64 (px+cx),.int .i64 (py+cy),.int .i64 (pz+cz)]) (results_cell_row rfl _ _ (w.heap.size+1) 23 #[.int .i64 (px+cx),.int .i64 (py+cy),.int .i64 (pz+cz)] (0,0) _ rfl kr Tryz.underlying23 rfl (by kernel_rfl)) rfl ⟨rfl,zF3 hB (by omega) _ _ _⟩
theorem zNt {n:Nat} {ax ay az m:Int} (hm:m=2 ^ (n+2)) (ha:Tr.Al n ⟨ax,ay,az⟩) {p:Pt}:inB p ⟨⟨ax,ay,az⟩,⟨ax+m,ay+m,az+m⟩⟩=true ↔ Tr.InC n ⟨ax,ay,az⟩ p:=by
 refine ⟨fun h=>?_,fun h=>zEq hm ha h⟩;obtain ⟨a1,a2,a3⟩:=ha;have hp:=Tr.pow_pos2 n;rw [←hm] at a1 a2 a3 hp;simp only [] at a1 a2 a3;have h:=zX.1 h
 have key : ∀ p a:Int,a % m=0→a≤p→p<a+m→p / m=a / m:=by
  intro p a h2 h3 h4;have e2:=Int.mul_ediv_add_emod a m;rw [h2,Int.add_zero] at e2;obtain ⟨r,hr⟩ : ∃ r,r=p - a:=⟨_,rfl⟩;have hpe:p=r+m * (a / m):=by omega
  rw [hpe,Int.add_mul_ediv_left _ _ (by omega),Int.ediv_eq_zero_of_lt (by omega) (by omega),Int.zero_add]
 refine ⟨?_,?_,?_⟩
 · show p.x / 2 ^ (n+2)=ax / 2 ^ (n+2);rw [←hm];exact key _ _ a1 h.1 h.2.1
 · show p.y / 2 ^ (n+2)=ay / 2 ^ (n+2);rw [←hm];exact key _ _ a2 h.2.2.1 h.2.2.2.1
 · show p.z / 2 ^ (n+2)=az / 2 ^ (n+2);rw [←hm];exact key _ _ a3 h.2.2.2.2.1 h.2.2.2.2.2
theorem zIv (B:Box) (f:Pt→Int) (c:Chg):wr1 B (zM B f) c=zM B (Tr.upd f c.at c.n):=by
 unfold wr1;by_cases h:inB c.at B=true
 · rw [if_pos h];have hb:=ze h;apply List.ext_getElem?;intro i;rw [List.getElem?_set];by_cases hi:i<(zU B).toNat
   · obtain ⟨h1,h2⟩:=zHR hi;rw [zAF hi,zAF hi];by_cases e:(zT B c.at).toNat=i
     · rw [if_pos e,if_pos (by rw [zP];omega)]
       have:atB B (i:Int)=c.at:=by rw [←e,Int.toNat_of_nonneg hb.1];exact zDG h
       rw [this,zMd]
     · rw [if_neg e,zGC];intro e';rw [e'] at h2;omega
   · rw [if_neg (by omega),List.getElem?_eq_none (by rw [zP];omega),List.getElem?_eq_none (by rw [zP];omega)]
 · rw [if_neg h];exact zf fun p hp=>(zGC (fun e=>h (by rw [←e];exact hp))).symm
abbrev pts (cs:List Chg):List (Pt × Int):=cs.map fun c=>(c.at,c.n)
theorem zDJ {N:Nat} {a:Pt} (h:InT N 0 a) : ∀ (cs:List Chg) (g:Pt→Int),wrL (zAs a) (inb cs a) (zz g a)=zz (zAa (pts cs) g) a
 | [],_=>rfl
 | c :: cs, g => by
   have ih:=zDJ h cs (Tr.upd g c.at c.n);rw [zAl,zAl] at *
   show wrL (zAs a) (inb (c::cs) a) (zM (zAs a) g)=zM (zAs a) (zAa (pts cs) (Tr.upd g c.at c.n))
   rw [←ih];have hin:inB c.at (zAs a)=true ↔ Tr.InC 0 a c.at:=zNt (n:=0) (m:=4) (by decide) (show Tr.Al 0 ⟨a.x,a.y,a.z⟩ from h.al)
   unfold inb;rw [List.filter_cons];by_cases hc:Tr.InC 0 a c.at
   · rw [if_pos (by simpa using hc)]
     show wrL (zAs a) _ (wr1 (zAs a) (zM (zAs a) g) c)=_
     rw [zIv]
   · rw [if_neg (by simpa using hc)]
     congr 1
     exact zf fun p hp=>(zGC (fun e=>hc (hin.1 (by rw [←e];exact hp)))).symm
theorem zIt {N n:Nat} {a:Pt} (h:InT N n a) {cs:List Chg} {f:Pt→Int} (hc : ¬zIr cs n a):Tr.can (zAa (pts cs) f) n a=Tr.can f n a :=
 Tr.can_congr n a h.al fun p hp=>zIy _ _ _ fun x hx e=>hc (by
  obtain ⟨c,hc1,rfl⟩:=List.mem_map.1 hx;exact ⟨c,hc1,by rw [show c.at=p from e];exact hp⟩)
def StayP (lo hi:Nat) (W0 W:World):Prop := ∀ k,lo≤k→k<hi→W.heap[k]? = W0.heap[k]?
theorem zNQ {W:World} {B:Nat} {v:Value} {l:List Chg} (h:W.ownsRow B 41 5 v l.length (zBv l)) : ∃ hc cap,v = .slice hc l.length cap∧l.length≤cap∧SlC W hc l:=by
 have hcell:=fun g (hg:v.ownBlock=some g)=>h.cells hg;rcases h.2 with ⟨rfl,hn⟩ | ⟨g,cap,cur,rfl,-,-,hc,-⟩
 · exact ⟨none,0,by rw [hn],by omega,fun i c hi=>by rw [List.length_eq_zero_iff.1 hn] at hi;simp at hi⟩
 · refine ⟨_,cap,rfl,hc,fun i c hi=>⟨g,0,rfl,?_⟩⟩;have hcell:=hcell g rfl
   have key : ∀ (l:List Chg) (i:Nat) (c:Chg) (j:Nat),l[i]? = some c→j<5→(zBv l)[i * 5+j]? = c.cells[j]? := by
    intro l
    induction l with
    | nil=>intro i c j hi;simp at hi
    | cons d r ih =>
      intro i c j hi hj
      show (d.cells++zBv r)[i * 5+j]? = _
      cases i with
      | zero =>
        obtain rfl:=Option.some.inj hi;rw [Nat.zero_mul,Nat.zero_add,List.getElem?_append_left (by simpa [Chg.cells] using hj)]
      | succ i =>
        rw [List.getElem?_append_right (by simp [Chg.cells];omega)]
        have:=ih i c j hi hj;rw [show (i+1) * 5+j - d.cells.length=i * 5+j by simp [Chg.cells];omega]
        exact this
   have get : ∀ j u,j<5→c.cells[j]? = some u→W.cell? ⟨g,0+i * 5+j,none⟩=some u:=fun j u hj hu=>by
    have:=hcell (i * 5+j) u ((key l i c j hi hj).trans hu);rw [Nat.zero_add];by_cases h0:i * 5+j=0
    · rw [h0] at this ⊢; exact this
    · unfold Addr.add at this;rw [if_neg (by simpa using h0)] at this
      simpa using this
   exact ⟨get 0 _ (by omega) rfl,get 1 _ (by omega) rfl,get 2 _ (by omega) rfl,get 3 _ (by omega) rfl,get 4 _ (by omega) rfl⟩
theorem zHb {w0 W0:World} {Av:Nat→Prop} {N vt vb tm bm m:Nat} {cs:List Chg} (hN:N≤12) (hC:cs.length≤4194304) (hK:WK w0 Av N vt vb tm bm m (zIr cs) cs W0) (sb:Nat) (most:Int) (g:Pt→Int) :
 EditC [] (fun k=>w0.heap.size≤k∧k<W0.heap.size) (StayP w0.heap.size W0.heap.size W0) sb most N g (zAa (pts cs) g) (fun _ _=>True) (zIr cs) 40 41
  #[.pointer (some ⟨vt,0,none⟩)] #[.pointer (some ⟨vb,0,none⟩)] (.func (.func 41) #[] #[.pointer (some ⟨vb,0,none⟩)]) where
 vtop:=trivial
 vkid:=fun _ _ _ _ _ _ _=>trivial
 stays:=fun a b hk hp k h1 h2=>by
  have h3:=hp k h1 h2
  have hl:k<a.heap.size:=by
   have hs:W0.heap[k]? = some W0.heap[k]:=Array.getElem?_eq_getElem h2;rw [hs] at h3;exact (Array.getElem?_eq_some_iff.1 h3).1
  exact (hk.block k ⟨h1,h2⟩ hl).trans h3
 en:=enters_of Tryz.func40 rfl rfl
 eb:=fun _ _=>⟨rfl,enters_of Tryz.func41 rfl rfl⟩
 node:=fun W Far us n a _ _ hin _ hP hG ht hlen hFar hS=>by
  obtain ⟨b1,b2,b3⟩:=hin.bd hN;have hle:=hin.le;obtain ⟨ft,t1,t2⟩:=hK.tmap;obtain ⟨q1,q2⟩:=t2 n a hle hin.al;have kt:Bk W vt #[.map (some tm)] 82:=(hP vt hK.ge.1 hK.kt.lt).trans hK.kt;have hM:=t1.of_block (hP tm hK.ge.2.2.1 t1.lt)
  have hwf : ∀ q∈[a.x,a.y,a.z,(n:Int)+2],(Lit.int .i64 q).wf=true:=fun q hq=>zC8 q (by
   simp only [List.mem_cons,List.not_mem_nil,or_false] at hq;rcases hq with rfl | rfl | rfl | rfl <;> omega)
  by_cases hc:zIr cs n a
  · have h:=zD4 a.x a.y a.z ((n:Int)+2) (idT us (Tr.can g n a):Int) vt tm m ft true hwf (by rw [q1 hc];rfl) W kt hM
    refine h.mono ?_;rintro e' w' ⟨rfl,hb⟩;exact ⟨Keeps.below hb,.inr (.inr ⟨hc,⟨_,rfl⟩,hb⟩)⟩
  · have h:=zD4 a.x a.y a.z ((n:Int)+2) (idT us (Tr.can g n a):Int) vt tm m ft false hwf (by rw [q2 hc];rfl) W kt hM
    refine h.mono ?_;rintro e' w' ⟨rfl,hb⟩;rw [zIt hin hc];exact zDR ht hS hb
 brick:=fun W B v a hin hu hP hF ho=>by
  obtain ⟨b1,b2,b3⟩:=hin.bd hN;obtain ⟨g1,cap,rfl,-,-,-,-,-⟩:=ho.at (by rw [zAG];decide)
  obtain ⟨fb,m1,m2,m3⟩:=hK.bmap
  have hne:inb cs a ≠ []:=by
   obtain ⟨c,hc,hi⟩:=hu;exact List.ne_nil_of_mem (List.mem_filter.2 ⟨hc,by simpa using hi⟩)
  obtain ⟨v,q1,q2,q3⟩:=(m2 a hin.al).2 hne;obtain ⟨hc,hcp,rfl,hcap,hsl⟩:=zNQ q2;have hlen:(inb cs a).length≤4194304:=Nat.le_trans (List.length_filter_le _ _) hC;have kb:Bk W vb #[.map (some bm)] 81:=(hP vb hK.ge.2.1 hK.kb.lt).trans hK.kb;have hM:=m1.of_block (hP bm hK.ge.2.2.2 m1.lt)
  have hs:SlC W hc (inb cs a):=hsl.of_block fun b hb _=>by
   have hob:(Value.slice hc (inb cs a).length hcp).ownBlock=some b:=by
    cases hc with
    | none=>cases hb
    | some ad=>exact hb
   have hl:=World.ownsRow.lt q2 b hob;exact hP b hl.1 hl.2
  have h:=zGB a.x a.y a.z b1 b2 b3 vb bm m g1 B cap fb hc hcp (zz g a) (inb cs a) (zAG _ _) hlen hcap (by rw [q1];rfl) W kb hM hs ho
  rw [show (⟨⟨a.x,a.y,a.z⟩,⟨a.x+4,a.y+4,a.z+4⟩⟩:Box)=zAs a from rfl,zDJ hin] at h;exact h
theorem zCZ {N:Nat} (hN:N≤12) (sb:Nat) (ha:Option Addr) (hcp:Nat) (cs:List Chg) (hC:cs.length≤4194304) (hcap:cs.length≤hcp) (most:Int) (g:Pt→Int) (hg : ∀ p,0≤g p∧g p≤255) (w:World) (hcs:SlC w ha cs) (Far:Nat→Prop) (ts:List Tr) (hG:Good ts) (ht:Tr.can g N ⟨0,0,0⟩∈ts)
 (hok:(∀ c∈cs,zCh N c)→(∀ p,0≤zAa (pts cs) g p∧zAa (pts cs) g p≤255)∧(Tr.add (Tr.can (zAa (pts cs) g) N ⟨0,0,0⟩) ts).length≤4000000) (hFar : ∀ k,Far k→k<w.heap.size) (hS:StoreIs w Far sb most ts) :
 Calls Tryz.prog 10 #[.pointer (some ⟨sb,0,none⟩),(idT ts (Tr.can g N ⟨0,0,0⟩):Int),.int .i64 ((N:Int)+2),.slice ha cs.length hcp] w (WSays (∀ c∈cs,zCh N c) (Done Far sb most ts (Tr.add (Tr.can (zAa (pts cs) g) N ⟨0,0,0⟩) ts) (Tr.can (zAa (pts cs) g) N ⟨0,0,0⟩) w) w):=by
 by_cases hv : ∀ c∈cs,zCh N c
 · obtain ⟨hg',hlen⟩:=hok hv;refine zDM hN sb _ ha hcp cs hC hcap w hcs _ ⟨fun Av vt vb tm bm m W _ hK=>?_⟩;refine (zCn hN (zHb hN hC hK sb most g) hg hg' W (fun x=>Far x∨(w.heap.size≤x∧x<W.heap.size)) (fun k hk=>.inr hk) (fun k _ _=>rfl) ts List.nil_prefix hG ht hlen ?_ ?_).mono ?_
   · intro k hk;rcases hk with hk | hk
     · exact Nat.lt_of_lt_of_le (hFar k hk) hK.bel.size
     · exact hk.2
   · exact (hS.widen (Far':=fun x=>Far x∨(w.heap.size≤x∧x<W.heap.size)) (fun k hk=>hk.imp (fun h=>h) (fun h=>h.1))).later hK.bel
   · intro e' w' hd;refine ⟨hd.less (Far:=Far) (Keeps.below hK.bel) (fun k hk=>.inl hk),?_⟩;obtain ⟨-,-,(⟨-,rfl,-⟩ | ⟨-,rfl,-⟩)⟩:=hd
     · exact ⟨_,_,rfl⟩
     · exact ⟨_,_,rfl⟩
 · refine (zDM hN sb _ ha hcp cs hC hcap w hcs (fun _ _=>True) ⟨fun Av vt vb tm bm m W hv' _=>absurd hv' hv⟩).mono ?_;intro e' w' h;exact ⟨fun h'=>absurd h' hv,fun _=>h.bad hv⟩
def zJZ (N:Nat) (px py pz lv:Int):Prop:=inB ⟨px,py,pz⟩ (zy (2 ^ (N+2)))=true∧2≤lv∧lv≤(N:Int)+2∧alB lv.toNat ⟨px,py,pz⟩=true
theorem zLX (w:World) (sb n:Nat) (hn:n≤12) (id px py pz lv:Int) (h : ¬zJZ n px py pz lv) :
 Calls Tryz.prog 69 #[.pointer (some ⟨sb,0,none⟩),id,.int .i64 ((n:Int)+2),.agg #[px,py,pz],lv] w fun e w'=>e=zAv 0 1∧Below w.heap.size w w':=by
 by_cases h1:inB ⟨px,py,pz⟩ (zy (2 ^ (n+2)))=true
 · by_cases h2:lv<2
   · exact zNL w sb n hn id px py pz lv h1 h2
   · by_cases h3:(n:Int)+2<lv
     · exact zNN w sb n hn id px py pz lv h1 h2 h3
     · obtain ⟨L,rfl⟩ : ∃ L:Nat,lv=(L:Int):=⟨lv.toNat,by omega⟩
       exact zNO w sb n L hn (by omega) (by omega) id px py pz h1 (Bool.eq_false_iff.2 fun h4=>h ⟨h1,by omega,by omega,by rw [Int.toNat_natCast];exact h4⟩)
 · exact zNM w sb n hn id px py pz lv (Bool.eq_false_iff.2 h1)
theorem zHh (sb n:Nat) (hn:n≤12) (id px py pz lv part:Int) (h : ¬zJZ n px py pz lv) (w:World) :
 Calls Tryz.prog 25 #[.pointer (some ⟨sb,0,none⟩),id,.int .i64 ((n:Int)+2),zH px py pz lv,part] w fun e w'=>e=zAv 0 1∧Below w.heap.size w w':=by
 have hp:=Bx.mk fun W=>zLX W sb n hn id px py pz lv h;clear h hn;go_enter Tryz.func25,Tryz.ntmps25;go_upto_region 1 with fail;generalize hW:World.alloc (World.alloc w _) _=W;have hB:=bl2 hW;have kc:Bk W w.heap.size #[px,py,pz,lv] 52:=bk1 hW;clear hW;obtain ⟨c0,c1,c2,c3⟩:=kc.c4;go_wp2_with fail;refine (hp.out _).mono ?_;rintro _ w2 ⟨rfl,hb⟩;have hB2:=hB.trans (hb.mono hB.size);clear c0 c1 c2 c3 hb hB;go_wp2_with fail
 go_ret2
 exact ⟨rfl,hB2⟩
end
section
open Go.RowKit
open Oct
def isU:Tr→Bool
 | .uni _=>true
 | _=>false
open Classical in
noncomputable def zAi:Nat→Pt→Tr→Tr→List (Pt × Nat)
 | 0,a,t,u=>if t=u then [] else [(a,0)]
 | n+1,a,t,u=>if t=u then [] else if (isU t && isU u)=true then [(a,n+1)] else (List.finRange 8).flatMap fun i=>zAi n (Tr.cor a n i.val) (t.kid i) (u.kid i)
theorem zCm (n:Nat) (a:Pt) (t:Tr):zAi n a t t=[]:=by cases n <;> simp [zAi]
theorem zER {a:Pt} {t u:Tr} (h:t ≠ u):zAi 0 a t u=[(a,0)]:=by simp [zAi,h]
theorem zFs {n:Nat} {a:Pt} {t u:Tr} (h:t ≠ u) (h1:isU t=true) (h2:isU u=true):zAi n a t u=[(a,n)]:=by cases n <;> simp [zAi,h,h1,h2]
noncomputable def zD2 (n:Nat) (a:Pt) (t u:Tr) (k:Nat):List (Pt × Nat):=((List.finRange 8).take k).flatMap fun i=>zAi n (Tr.cor a n i.val) (t.kid i) (u.kid i)
theorem zIX (n:Nat) (a:Pt) (t u:Tr):zD2 n a t u 0=[]:=rfl
theorem zIY (n:Nat) (a:Pt) (t u:Tr) {k:Nat} (hk:k<8):zD2 n a t u (k+1)=zD2 n a t u k++zAi n (Tr.cor a n k) (t.kid ⟨k,hk⟩) (u.kid ⟨k,hk⟩):=by
 unfold zD2;rw [List.take_succ_eq_append_getElem (by simpa using hk),List.flatMap_append]
 simp
theorem zKH (n:Nat) (a:Pt) (t u:Tr) (h:t ≠ u) (h1:(isU t && isU u)=false):zD2 n a t u 8=zAi (n+1) a t u:=by
 unfold zD2;rw [List.take_of_length_le (by simp)]
 simp [zAi,h,h1]
def zL:Nat→Pt→Tr→List (Pt × Nat × Tr)
 | n+1,a,.node _ ch=>(List.finRange 8).flatMap fun i=>zL n (Tr.cor a n i.val) (ch i)
 | n,a,t=>[(a,n,t)]
theorem zBH (n:Nat) (a:Pt) (c:Int):zL n a (.uni c)=[(a,n,.uni c)]:=by cases n <;> rfl
theorem zCE (n:Nat) (a:Pt) (l:List Int):zL n a (.brick l)=[(a,n,.brick l)]:=by cases n <;> rfl
def zAf (n:Nat) (a:Pt) (ch:Fin 8→Tr) (k:Nat):List (Pt × Nat × Tr):=((List.finRange 8).take k).flatMap fun i=>zL n (Tr.cor a n i.val) (ch i)
theorem zFi (n:Nat) (a:Pt) (ch:Fin 8→Tr):zAf n a ch 0=[]:=rfl
theorem zBW (n:Nat) (a:Pt) (ch:Fin 8→Tr) {k:Nat} (hk:k<8):zAf n a ch (k+1)=zAf n a ch k++zL n (Tr.cor a n k) (ch ⟨k,hk⟩):=by
 unfold zAf;rw [List.take_succ_eq_append_getElem (by simpa using hk),List.flatMap_append]
 simp
theorem zGW (n d:Nat) (a:Pt) (ch:Fin 8→Tr):zAf n a ch 8=zL (n+1) a (.node d ch):=by
 unfold zAf;rw [List.take_of_length_le (by simp)]
 rfl
def zKk (c:Int) (x:Pt × Nat × Tr):Nat :=
 match x.2.2 with
 | .uni d=>if d=c then 8 ^ (x.2.1+2) else 0
 | .brick l=>l.count c
 | .node _ _=>0
end
section
open Go.RowKit Go.Sort Go.Maps
open Oct
def zC5 (x:Pt × Nat):List Value:=[.int .i64 x.1.x,.int .i64 x.1.y,.int .i64 x.1.z,.int .i64 ((x.2:Int)+2)]
abbrev zAg (L:List (Pt × Nat)):List Value:=L.flatMap zC5
abbrev zIW (ps po pv:Nat):Value:=.func (.func 72) #[] #[.pointer (some ⟨ps,0,none⟩),.pointer (some ⟨po,0,none⟩),.pointer (some ⟨pv,0,none⟩)]
structure DSt (w0:World) (Av:Nat→Prop) (ps po pv sb:Nat) (L:List (Pt × Nat)) (W:World):Prop where
 bel:Below w0.heap.size w0 W
 ks:Bk W ps #[.pointer (some ⟨sb,0,none⟩)] 33
 kv:Bk W pv #[zIW ps po pv] 119
 ko : ∃ v,Bk W po #[v] 67∧W.ownsRow w0.heap.size 52 4 v L.length (zAg L) ∧ ∀ g,v.ownBlock=some g → ¬Av g
 ge:w0.heap.size≤ps∧w0.heap.size≤po∧w0.heap.size≤pv
 av:Av ps∧Av po∧Av pv
 ne:ps ≠ po∧pv ≠ po
 lt : ∀ k,Av k→k<W.heap.size
theorem DSt.avoid {w0 W W':World} {Av Av':Nat→Prop} {ps po pv sb:Nat} {L:List (Pt × Nat)} (h:DSt w0 Av ps po pv sb L W) (hb:Below W.heap.size W W') (h' : ∀ k,Av' k→Av k∨W.heap.size≤k) (hl : ∀ k,Av' k→k<W'.heap.size) (ha:Av' ps∧Av' po∧Av' pv):DSt w0 Av' ps po pv sb L W':=by
 obtain ⟨v,k1,k2,k3⟩:=h.ko;refine ⟨h.bel.trans (hb.mono h.bel.size),h.ks.later hb,h.kv.later hb,⟨v,k1.later hb,World.ownsRow.kept k2 (zJ hb) (by cases v.ownBlock <;> simp),fun g hg ha'=>?_⟩,h.ge,ha,h.ne,hl⟩
 rcases h' g ha' with h | h
 · exact k3 g hg h
 · have:=(World.ownsRow.lt k2 g hg).2;omega
theorem DSt.later {w0 W W':World} {Av:Nat→Prop} {ps po pv sb:Nat} {L:List (Pt × Nat)} (h:DSt w0 Av ps po pv sb L W) (hb:Below W.heap.size W W'):DSt w0 Av ps po pv sb L W' :=
 h.avoid hb (fun k hk=>.inl hk) (fun k hk=>Nat.lt_of_lt_of_le (h.lt k hk) hb.size) h.av
theorem Bk.put1 {w:World} {g:Nat} {x:Value} {t:TypeId} (h:Bk w g #[x] t) (a:Value):Bk (w.setCell ⟨g,0,none⟩ a) g #[a] t:=by
 simpa using h.set 0 a
theorem DSt.push {w0 W W3:World} {Av:Nat→Prop} {ps po pv sb:Nat} {L:List (Pt × Nat)} {x:Pt × Nat} {v v':Value} (h:DSt w0 Av ps po pv sb L W) (hk:Bk W po #[v] 67) (hg:W.grownBy W3 v.ownBlock) (hown:W3.ownsRow w0.heap.size 52 4 v' (L.length+1) (zAg L++zC5 x)) (hat:v'.ownBlock=v.ownBlock∨(∃ g,v'.ownBlock=some g∧W.heap.size≤g)) :
 DSt w0 Av ps po pv sb (L++[x]) (W3.setCell ⟨po,0,none⟩ v') ∧ ∀ k,Av k→k ≠ po→(W3.setCell ⟨po,0,none⟩ v').heap[k]? = W.heap[k]? := by
 obtain ⟨v2,k1,k2,k3⟩:=h.ko
 obtain rfl:v2=v:=by
  have e:=(k1.cell 0 rfl).symm.trans (hk.cell 0 rfl);simpa using e
 have hnv : ∀ g,v'.ownBlock=some g → ¬Av g:=by
  intro g hgv;rcases hat with e | ⟨g',e,hge⟩
  · exact k3 g (e.symm.trans hgv)
  · rw [e] at hgv;obtain rfl:=Option.some.inj hgv;intro ha;have:=h.lt _ ha;omega
 have keep : ∀ k,Av k→W3.heap[k]? = W.heap[k]? := fun k hk=>hg.block k (h.lt k hk) (fun e=>k3 k e.symm hk);have keep2 : ∀ k,Av k→k ≠ po→(W3.setCell ⟨po,0,none⟩ v').heap[k]? = W.heap[k]? := fun k hk hne=>(RowKit.Below.heap_setCell _ _ _ _ (fun e=>hne e)).trans (keep k hk);have hpo:Bk W3 po #[v2] 67:=(keep po h.av.2.1).trans k1;have hgs:=zS W3 ⟨po,0,none⟩ v';refine ⟨⟨?_,?_,?_,⟨v',?_,?_,hnv⟩,h.ge,h.av,h.ne,fun k hk=>?_⟩,keep2⟩
 · refine h.bel.trans ⟨hgs.os.trans hg.os,hgs.tape.trans hg.tape,hgs.output.trans hg.output,Nat.le_trans hg.size hgs.size,fun k hk=>?_⟩;refine (RowKit.Below.heap_setCell _ _ _ _ (fun e=>?_)).trans (hg.block k (Nat.lt_of_lt_of_le hk h.bel.size) (fun e=>?_))
   · have:=h.ge.2.1;simp only at e;omega
   · have:=(World.ownsRow.lt k2 k e.symm).1;omega
 · exact (keep2 ps h.av.1 h.ne.1).trans h.ks
 · exact (keep2 pv h.av.2.2 h.ne.2).trans h.kv
 · exact Bk.put1 hpo v'
 · rw [List.length_append,List.length_singleton,show zAg (L++[x])=zAg L++zC5 x by unfold zAg;rw [List.flatMap_append];simp]
   exact World.ownsRow.kept hown hgs (by
    cases hv:v'.ownBlock with
    | none=>exact .inl rfl
    | some g=>exact .inr (fun e=>hnv g hv (by injection e with e;exact e ▸ h.av.2.1)))
 · rw [zq];exact Nat.lt_of_lt_of_le (h.lt k hk) hg.size
structure DPost (w0:World) (Av:Nat→Prop) (ps po pv sb:Nat) (L:List (Pt × Nat)) (W:World) (e:Ending) (W':World):Prop where
 ends:e = .returned (.tuple #[])
 st:DSt w0 Av ps po pv sb L W'
 keep : ∀ k,Av k→k ≠ po→W'.heap[k]? = W.heap[k]?
theorem zES {W W':World} {Av:Nat→Prop} {po:Nat} (hb:Below W.heap.size W W') (hl : ∀ k,Av k→k<W.heap.size) : ∀ k,Av k→k ≠ po→W'.heap[k]? = W.heap[k]? := fun k hk _=>hb.block k (hl k hk)
theorem zKC (lv x y z i:Int) (ps po pv sb:Nat) (w0 w:World) (Av:Nat→Prop) (L:List (Pt × Nat)) (H:DSt w0 Av ps po pv sb L w) :
 Calls Tryz.prog 72 #[zH x y z lv,i,i,.pointer (some ⟨ps,0,none⟩),.pointer (some ⟨po,0,none⟩),.pointer (some ⟨pv,0,none⟩)] w (DPost w0 Av ps po pv sb L w):=by
 have HH:=Bx.mk H;clear H;have t0:(i == i)=true:=by simp
 go_enter Tryz.func72,Tryz.ntmps72;go_wp2_with fail
 go_end0
 have hb:Below w.heap.size w (World.alloc w (.cells #[x,y,z,lv] 52)):=(Below.refl _ _).alloc (Nat.le_refl _) _;exact ⟨rfl,HH.out.later hb,zES hb HH.out.lt⟩
theorem zKD (n:Nat) (hn:n≤100) (a:Pt) (most:Int) (ts:List Tr) (hlen:ts.length≤4194304) (T U:Tr) (hT:T∈ts) (hU:U∈ts) (hne:T ≠ U) (hl:n=0∨(isU T && isU U)=true) (ps po pv sb:Nat) (w0 w:World) (Av:Nat→Prop) (L:List (Pt × Nat)) (hLl:L.length≤1000000000000) (H:DSt w0 Av ps po pv sb L w) (hS:StoreIs w (fun _=>False) sb most ts) :
 Calls Tryz.prog 72 #[zH a.x a.y a.z ((n:Int)+2),(idT ts T:Int),(idT ts U:Int),.pointer (some ⟨ps,0,none⟩),.pointer (some ⟨po,0,none⟩),.pointer (some ⟨pv,0,none⟩)] w (DPost w0 Av ps po pv sb (L++[(a,n)]) w):=by
 have Hk:=Bx.mk fun W (h:StoreIs W (fun _=>False) sb most ts)=>zo _ sb most ts T hT hlen W h;have Hk2:=Bx.mk fun W (h:StoreIs W (fun _=>False) sb most ts)=>zo _ sb most ts U hU hlen W h
 have t0:((idT ts T:Int) == (idT ts U:Int))=false:=by
  simp only [beq_eq_false_iff_ne,ne_eq];intro e;exact hne (zx hT hU (by omega))
 have hk:isU T=true→zAE T=1:=fun h=>by cases T <;> first | rfl | cases h
 have hk2:isU U=true→zAE U=1:=fun h=>by cases U <;> first | rfl | cases h
 obtain ⟨i0,hi0,hz0,hz1,hz2⟩:=info_parts (show (Tryz.prog.info? 52).map (fun i=>(i.zero,i.size,i.bytes))=some (some (.agg #[(0:Int),(0:Int),(0:Int),(0:Int)]),4,32) by kernel_rfl)
 have HI0:=Bx.mk hi0;have HZ0:=Bx.mk hz0;have HZ1:=Bx.mk hz1;have HZ2:=Bx.mk hz2;have HLL:=Bx.mk hLl;have HS:=Bx.mk hS;have HH:=Bx.mk H;generalize (idT ts T:Int)=iT at *;generalize (idT ts U:Int)=iU at *
 have hlv:Bx ((n:Int)+2=2∨(zAE T=1∧zAE U=1)):=⟨by
  rcases hl with h | h
  · left;omega
  · right;rw [Bool.and_eq_true] at h;exact ⟨hk h.1,hk2 h.2⟩⟩
 obtain ⟨lv,hlve⟩ : ∃ lv:Int,(n:Int)+2=lv:=⟨_,rfl⟩;have HLV:=Bx.mk hlve;rw [hlve] at hlv ⊢;generalize zAE T=kT at *;generalize zAE U=kU at *;clear H hS hne hl hk hk2 hT hU hlen hlve hi0 hz0 hz1 hz2 hLl hn;go_enter Tryz.func72,Tryz.ntmps72;go_upto_region 1 with fail;generalize hW:World.alloc w _=W;have hb:=bl1 hW;have kc:Bk W w.heap.size #[a.x,a.y,a.z,lv] 52:=bk0 hW;clear hW;have HW:=Bx.mk (HH.out.later hb);have HSW:=Bx.mk (HS.out.later hb);obtain ⟨v,k1,k2,k3⟩:=HW.out.ko;obtain ⟨va,vc,rfl⟩:=zk k2;have K1:=Bx.mk k1;have Hnav:=Bx.mk k3;have hbase:=HW.out.bel.size;have hpoW:=k1.lt;have hown:=Bx.mk fun o=>World.ownsRow.alloc k2 o;obtain ⟨c0,c1,c2,c3⟩:=kc.c4;have s0:=HW.out.ks.cell 0 rfl;have o0:=k1.cell 0 rfl;have KC:=Bx.mk kc;have HB:=Bx.mk hb;clear k2 k3 k1 kc hb;go_upto_region 2 with fail
 go_cut [16] from 17 to 31 (fun v wx=>v = .bool true∧wx=W)
 case first =>
  by_cases h4:lv=2
  · have t1:(lv == 2)=true:=by simp [h4]
    clear h4 hlv;go_wp2_with fail
    go_meet
    exact ⟨rfl,rfl⟩
  · obtain ⟨h2,h3⟩:=hlv.out.resolve_left h4;have t1:(lv == 2)=false:=by simp [h4]
    have t2:(kT == 1)=true:=by simp [h2]
    have t3:(kU == 1)=true:=by simp [h3]
    clear h2 h3 h4 hlv;go_wp2_with (first | ((with_reducible refine (Hk.out W HSW.out).mono ?_);rintro _ _ ⟨rfl,rfl⟩) | ((with_reducible refine (Hk2.out W HSW.out).mono ?_);rintro _ _ ⟨rfl,rfl⟩))
    go_meet
    exact ⟨rfl,rfl⟩
 case rest =>
 obtain ⟨rfl,hw⟩:=hcut;replace hw:=hw.symm;subst hw;clear t0 hlv;go_wp2_with (at_builtin;refine wpList_append_own_at _ rfl _ _ 67 rfl w0.heap.size 52 i0 _ 4 32 Tryz.underlying67 HI0.out HZ0.out HZ1.out HZ2.out rfl (by omega) _ _ _ rfl (hown.out _) ⟨W.heap.size,0,none⟩ 1 1 [.int .i64 a.x,.int .i64 a.y,.int .i64 a.z,.int .i64 lv] rfl rfl (World.news_of_block (cs:=#[a.x,a.y,a.z,lv]) (t:=52) (fr:=(0,0)) (heap_alloc_new W _)) (by simp [Value.oneCell']) (by have:=HLL.out;simp only [maxLen];omega) (by have:=HLL.out;omega) (by simp;omega) ?_;intro v6 W6 hown6 hgr6 hnil6 hat6;obtain ⟨va6,vc6,rfl⟩:=zk hown6;have hpu:=Bx.mk (HW.out.push (x:=(a,n)) K1.out ((World.grownBy_alloc W _ _).trans hgr6) (by have h:=hown6;unfold zC5;rw [HLV.out];exact h) (hat6.imp (fun h=>h) (fun h=>⟨_,h,by simp⟩)));have k6:Bk W6 po #[.slice va L.length vc] 67:=(hgr6.block po (by simp;omega) (fun e=>(Hnav.out po e.symm) HW.out.av.2.1)).trans (zB K1.out);have o6:=k6.cell 0 rfl;have f6:=k6.frozen 0;clear hown6 hgr6 hnil6 hat6 k6)
 go_end0
 exact ⟨rfl,hpu.out.1,fun k hk hne=>(hpu.out.2 k hk hne).trans (HB.out.block k (HH.out.lt k hk))⟩
theorem Bk.put8' {w:World} {g:Nat} {x0 x1 x2 x3 x4 x5 x6 x7:Value} {t:TypeId} (h:Bk w g #[x0,x1,x2,x3,x4,x5,x6,x7] t) (a b c d e f i j:Value) :
 Bk ((((((((w.setCell ⟨g,0,none⟩ a).setCell ⟨g,1,none⟩ b).setCell ⟨g,2,none⟩ c).setCell ⟨g,3,none⟩ d).setCell ⟨g,4,none⟩ e).setCell ⟨g,5,none⟩ f).setCell ⟨g,6,none⟩ i).setCell ⟨g,7,none⟩ j) g #[a,b,c,d,e,f,i,j] t:=by
 simpa using (((((((h.set 0 a).set 1 b).set 2 c).set 3 d).set 4 e).set 5 f).set 6 i).set 7 j
theorem zF6 (o:Oper) (h:o.op = .alloc 98) (ρ:Operand→Value) (w:World) :
 (execOp ρ o).run Tryz.prog w = .ok (.value (.pointer (some ⟨w.heap.size,0,none⟩))) (w.alloc (.cells #[(0:Int),(0:Int),(0:Int),(0:Int),(0:Int),(0:Int),(0:Int),(0:Int)] 98)):=by
 unfold execOp;simp only [h];go_simp
 try rfl
theorem zFJ (o:Oper) (tp tu:Tmp) (h:o.op = .store 98 (.tmp tp) (.tmp tu)) (z0 z1 z2 z3 z4 z5 z6 z7:Value) (y0 y1 y2 y3 y4 y5 y6 y7:Int) (ρ:Operand→Value) (w:World) (g:Nat) (h1:ρ (.tmp tp) = .pointer (some ⟨g,0,none⟩))
 (h2:ρ (.tmp tu) = .agg #[y0,y1,y2,y3,y4,y5,y6,y7]) (hb:Bk w g #[z0,z1,z2,z3,z4,z5,z6,z7] 98) :
 ∃ w',(execOp ρ o).run Tryz.prog w = .ok .skip w'∧Bk w' g #[y0,y1,y2,y3,y4,y5,y6,y7] 98∧w.grownBy w' (some g)∧w'.heap.size=w.heap.size:=by
 have c0:=hb.cell 0 rfl;have f0:=hb.frozen 0;have c1:=hb.cell 1 rfl;have f1:=hb.frozen 1;have c2:=hb.cell 2 rfl;have f2:=hb.frozen 2;have c3:=hb.cell 3 rfl;have f3:=hb.frozen 3;have c4:=hb.cell 4 rfl;have f4:=hb.frozen 4;have c5:=hb.cell 5 rfl;have f5:=hb.frozen 5;have c6:=hb.cell 6 rfl;have f6:=hb.frozen 6;have c7:=hb.cell 7 rfl;have f7:=hb.frozen 7;refine ⟨_,?_,hb.put8' _ _ _ _ _ _ _ _,zC (zC (zC (zC (zC (zC (zC (zC (World.grownBy.refl w _) _ _) _ _) _ _) _ _) _ _) _ _) _ _) _ _,by simp⟩
 unfold execOp;simp only [h];go_simp
structure DL (w0 w:World) (Av Av2:Nat→Prop) (ps po pv sb gx gy:Nat) (ts:List Tr) (T U:Tr) (a:Pt) (lv:Int) (L:List (Pt × Nat)) (wr:World):Prop where
 st:DSt w0 Av2 ps po pv sb L wr
 kc:Bk wr w.heap.size #[a.x,a.y,a.z,lv] 52
 kx:wr.rowIs gx 98 8 (fun j=>.int .i64 (idT ts (zDx T j):Int))
 ky:wr.rowIs gy 98 8 (fun j=>.int .i64 (idT ts (zDx U j):Int))
 keep : ∀ k,Av k→k ≠ po→wr.heap[k]? = w.heap[k]?
theorem zN7 (m:Nat) (hm:m≤11) (a:Pt) (hx:0≤a.x∧a.x≤16384) (hy:0≤a.y∧a.y≤16384) (hz:0≤a.z∧a.z≤16384) (most:Int) (ts:List Tr) (hlen:ts.length≤4194304) (T U:Tr) (hT:T∈ts) (hU:U∈ts) (hne:T ≠ U) (hl:(isU T && isU U)=false) (ps po pv sb:Nat) (w0 w:World) (Av:Nat→Prop) (L:List (Pt × Nat)) (D:Nat→List (Pt × Nat)) (H:DSt w0 Av ps po pv sb L w) (hS:StoreIs w (fun k=>w0.heap.size≤k) sb most ts) (D0:D 0=[])
 (IH:Bx (∀ (k:Nat),k<8 → ∀ (Av':Nat→Prop) (W:World),(∀ j,Av j→Av' j)→Below w0.heap.size w0 W→DSt w0 Av' ps po pv sb (L++D k) W→Calls Tryz.prog 72 #[zH (a.x+chX k (2 ^ (m+2))) (a.y+chY k (2 ^ (m+2))) (a.z+chZ k (2 ^ (m+2))) ((m:Int)+2),(idT ts (zDx T k):Int),(idT ts (zDx U k):Int),.pointer (some ⟨ps,0,none⟩),.pointer (some ⟨po,0,none⟩),.pointer (some ⟨pv,0,none⟩)] W (DPost w0 Av' ps po pv sb (L++D (k+1)) W))) :
 Calls Tryz.prog 72 #[zH a.x a.y a.z ((m:Int)+3),(idT ts T:Int),(idT ts U:Int),.pointer (some ⟨ps,0,none⟩),.pointer (some ⟨po,0,none⟩),.pointer (some ⟨pv,0,none⟩)] w (DPost w0 Av ps po pv sb (L++D 8) w):=by
 have Hk:=Bx.mk fun W (h:StoreIs W (fun k=>w0.heap.size≤k) sb most ts)=>zo _ sb most ts T hT hlen W h;have Hk2:=Bx.mk fun W (h:StoreIs W (fun k=>w0.heap.size≤k) sb most ts)=>zo _ sb most ts U hU hlen W h;have hkT:=Bx.mk fun W (h:StoreIs W (fun k=>w0.heap.size≤k) sb most ts)=>zEl _ sb most ts T hT hlen W h;have hkU:=Bx.mk fun W (h:StoreIs W (fun k=>w0.heap.size≤k) sb most ts)=>zEl _ sb most ts U hU hlen W h;have hcor:=Bx.mk (fun W i hi=>zDl (m+2) (by omega) a.x a.y a.z i hi (by omega) (by omega) (by omega) W)
 rw [show ((m+2+1:Nat):Int)=(m:Int)+3 by omega,show ((m+2:Nat):Int)=(m:Int)+2 by omega] at hcor
 have t0:((idT ts T:Int) == (idT ts U:Int))=false:=by
  simp only [beq_eq_false_iff_ne,ne_eq];intro e;exact hne (zx hT hU (by omega))
 have t1:((m:Int)+3 == 2)=false:=by simp;omega
 have hk:Bx (zAE T=1→zAE U=1→False):=⟨fun h1 h2=>by
  have h3:isU T=true:=by cases T <;> first | rfl | (simp [zAE] at h1)
  have h4:isU U=true:=by cases U <;> first | rfl | (simp [zAE] at h2)
  rw [h3,h4] at hl;cases hl⟩
 have HS:=Bx.mk hS;have HH:=Bx.mk H;generalize zAE T=kT at *;generalize zAE U=kU at *;clear H hS hne hl hT hU hlen hx hy hz hm;go_enter Tryz.func72,Tryz.ntmps72;go_upto_region 1 with fail;generalize hW:World.alloc w _=W;have hb:=bl1 hW;have kc:Bk W w.heap.size #[a.x,a.y,a.z,.int .i64 ((m:Int)+3)] 52:=bk0 hW;clear hW;have HW:=Bx.mk (HH.out.later hb);have HSW:=Bx.mk (HS.out.later hb);have KS:=Bx.mk HW.out.ks;have KC:=Bx.mk kc;have HB:=Bx.mk hb;have c3:=kc.cell 3 rfl;have s0:=HW.out.ks.cell 0 rfl;clear hb kc;go_upto_region 2 with fail
 go_cut [16] from 17 to 31 (fun v wx=>v = .bool false∧wx=W)
 case first =>
  by_cases h2:kT=1
  · have t2:(kT == 1)=true:=by simp [h2]
    have t3:(kU == 1)=false:=by simp;exact fun h=>hk.out h2 h
    clear h2 hk;go_wp2_with (first | ((with_reducible refine (Hk.out W HSW.out).mono ?_);rintro _ _ ⟨rfl,rfl⟩) | ((with_reducible refine (Hk2.out W HSW.out).mono ?_);rintro _ _ ⟨rfl,rfl⟩))
    go_meet
    exact ⟨rfl,rfl⟩
  · have t2:(kT == 1)=false:=by simp [h2]
    clear h2 hk;go_wp2_with (first | ((with_reducible refine (Hk.out W HSW.out).mono ?_);rintro _ _ ⟨rfl,rfl⟩) | ((with_reducible refine (Hk2.out W HSW.out).mono ?_);rintro _ _ ⟨rfl,rfl⟩))
    go_meet
    exact ⟨rfl,rfl⟩
 case rest =>
 obtain ⟨rfl,hw⟩:=hcut;replace hw:=hw.symm;subst hw;clear t0 t1 c3 s0 hk;go_upto_region 4 with fail;have cs0 : ∀ dk osk,(grow (redrawn W dk) osk).cell? ⟨ps,0,none⟩=some (.pointer (some ⟨sb,0,none⟩)):=cell_regrown (KS.out.cell 0 rfl);have q0:=Bx.mk fun dk osk=>(hkT.out (grow (redrawn W dk) osk) (HSW.out.later (below_regrown W dk osk)));have q1:=Bx.mk fun dk osk=>(hkU.out (grow (redrawn W dk) osk) (HSW.out.later (below_regrown W dk osk)));refine zg 6 2 (fun j=>[9,10].getD j 0) (fun j=>[38,41].getD j 0) (fun j=>[98,98].getD j 0) (fun _=>#[.int .i64 0,.int .i64 0,.int .i64 0,.int .i64 0,.int .i64 0,.int .i64 0,.int .i64 0,.int .i64 0]) (fun j=>[#[.int .i64 (idT ts (T.kid 0):Int),.int .i64 (idT ts (T.kid 1):Int),.int .i64 (idT ts (T.kid 2):Int),.int .i64 (idT ts (T.kid 3):Int),.int .i64 (idT ts (T.kid 4):Int),.int .i64 (idT ts (T.kid 5):Int),.int .i64 (idT ts (T.kid 6):Int),.int .i64 (idT ts (T.kid 7):Int)],#[.int .i64 (idT ts (U.kid 0):Int),.int .i64 (idT ts (U.kid 1):Int),.int .i64 (idT ts (U.kid 2):Int),.int .i64 (idT ts (U.kid 3):Int),.int .i64 (idT ts (U.kid 4):Int),.int .i64 (idT ts (U.kid 5):Int),.int .i64 (idT ts (U.kid 6):Int),.int .i64 (idT ts (U.kid 7):Int)]].getD j #[]) (by kernel_rfl) (by kernel_rfl) ⟨fun j hj=>?_,fun j hj=>?_⟩ 57 (by kernel_rfl) (by rfl) ?_
 · match j,hj with
   | 0,_=>exact ⟨_,rfl,rfl,rfl,zF6 _ rfl⟩
   | 1,_=>exact ⟨_,rfl,rfl,rfl,zF6 _ rfl⟩
   | j+2,hj=>omega
 · match j,hj with
   | 0,_=>exact ⟨_,rfl,rfl,rfl,fun ρ w g h1 h2 hb=>zFJ _ 9 38 rfl _ _ _ _ _ _ _ _ _ _ _ _ _ _ _ _ ρ w g h1 h2 hb⟩
   | 1,_=>exact ⟨_,rfl,rfl,rfl,fun ρ w g h1 h2 hb=>zFJ _ 10 41 rfl _ _ _ _ _ _ _ _ _ _ _ _ _ _ _ _ ρ w g h1 h2 hb⟩
   | j+2,hj=>omega
 simp only [List.take_succ_cons,List.take_zero]
 repeat (refine zAB (fun K hK=>?_);go_simp;first | (refine hK _ ?_;clear hK K) | (apply Exists.intro;refine ⟨fun _=>?_,hK _ ?_⟩;(first | ((with_reducible refine (q0.out _ _).mono ?_);exact fun _ _ h=>by simpa using h) | ((with_reducible refine (q1.out _ _).mono ?_);exact fun _ _ h=>by simpa using h));clear hK K))
 refine zAK ⟨fun j hj=>match j,hj with | 0,_=>rfl | 1,_=>rfl | j+2,hj=>absurd hj (by omega),fun g W1 hb hg hne=>?_⟩
 obtain ⟨hs,ks⟩:=hg 0 (by omega)
 obtain ⟨hd,kd⟩:=hg 1 (by omega)
 have nsd:=hne 0 1 (by omega) (by omega) (by omega)
 clear hg hne cs0 q0 q1;simp only [zAk,List.range_succ,List.range_zero,List.nil_append,List.cons_append,List.map_cons,List.map_nil,List.foldl_cons,List.foldl_nil,List.getD_cons_zero,List.getD_cons_succ];generalize g 0=gx at *;generalize g 1=gy at *;replace ks:Bk W1 gx #[(idT ts (T.kid 0):Int),(idT ts (T.kid 1):Int),(idT ts (T.kid 2):Int),(idT ts (T.kid 3):Int),(idT ts (T.kid 4):Int),(idT ts (T.kid 5):Int),(idT ts (T.kid 6):Int),(idT ts (T.kid 7):Int)] 98:=ks;replace kd:Bk W1 gy #[(idT ts (U.kid 0):Int),(idT ts (U.kid 1):Int),(idT ts (U.kid 2):Int),(idT ts (U.kid 3):Int),(idT ts (U.kid 4):Int),(idT ts (U.kid 5):Int),(idT ts (U.kid 6):Int),(idT ts (U.kid 7):Int)] 98:=kd;have hbw:=HB.out.trans (hb.mono HB.out.size);have hk0:=KC.out.lt
 have HK:=Bx.mk (HH.out.avoid (Av':=fun k=>Av k∨k=w.heap.size∨k=gx∨k=gy) hbw (fun k hk=>by
  have:=HB.out.size;rcases hk with hk | rfl | rfl | rfl
  · exact .inl hk
  · right;omega
  · right;omega
  · right;omega) (fun k hk=>by
  rcases hk with hk | rfl | rfl | rfl
  · exact Nat.lt_of_lt_of_le (HH.out.lt k hk) hbw.size
  · exact Nat.lt_of_lt_of_le hk0 hb.size
  · exact ks.lt
  · exact kd.lt) ⟨.inl HH.out.av.1,.inl HH.out.av.2.1,.inl HH.out.av.2.2⟩)
 have hrow : ∀ (V:Tr) (g:Nat),Bk W1 g #[(idT ts (V.kid 0):Int),(idT ts (V.kid 1):Int),(idT ts (V.kid 2):Int),(idT ts (V.kid 3):Int),(idT ts (V.kid 4):Int),(idT ts (V.kid 5):Int),(idT ts (V.kid 6):Int),(idT ts (V.kid 7):Int)] 98→W1.rowIs g 98 8 (fun j=>.int .i64 (idT ts (zDx V j):Int)):=fun V g h=>⟨_,h,rfl,fun i hi=>by
  have hi8:i<8:=hi
  show _=some (Value.int .i64 (idT ts (zDx V i):Int))
  rw [zBI V hi8];rcases i with _ | _ | _ | _ | _ | _ | _ | _ | i
  all_goals first | rfl | omega⟩
 have HI:Bx (DL w0 w Av (fun k=>Av k∨k=w.heap.size∨k=gx∨k=gy) ps po pv sb gx gy ts T U a ((m:Int)+3) (L++D 0) W1):=⟨⟨by rw [D0,List.append_nil];exact HK.out,KC.out.later hb,hrow T gx ks,hrow U gy kd,zES hbw HH.out.lt⟩⟩
 have hgw:w.heap.size<gx∧w.heap.size<gy:=by have:=HB.out.size;omega
 clear hs ks hd kd nsd hbw hk0 HK hrow hb HW HSW KS KC HB hkT hkU;go_wp2_with fail
 go_loopw [42] (fun v42 wr => ∃ k:Nat,k≤8∧v42 = .int .i64 k∧Bx (DL w0 w Av (fun k=>Av k∨k=w.heap.size∨k=gx∨k=gy) ps po pv sb gx gy ts T U a ((m:Int)+3) (L++D k) wr)) (fun i _=>8 - (intOf i).toNat)
 case atStart=>exact ⟨0,Nat.zero_le _,rfl,HI⟩
 case round =>
  clear HI;obtain ⟨k,hk,rfl,HI⟩:=hrel;by_cases hlt:k<8
  · have t0:decide ((k:Int)<8)=true:=by simp;omega
    have b1:(0:Int)≤(k:Int):=by omega
    have b2:(k:Int)<8:=by omega
    have KV:=Bx.mk HI.out.st.kv;have KC:=Bx.mk HI.out.kc;have HX:=Bx.mk HI.out.kx;have HY:=Bx.mk HI.out.ky;have hcork:=Bx.mk fun W=>hcor.out W k hlt;go_upto_region 8 with fail
    refine zw 10 (fun i v w'=>match i with
     | 0=>v=zIW ps po pv
     | 1=>v=zH a.x a.y a.z ((m:Int)+3)
     | 2=>v = .int .i64 (k:Int)
     | 3=>v=zH (a.x+chX k (2 ^ (m+2))) (a.y+chY k (2 ^ (m+2))) (a.z+chZ k (2 ^ (m+2))) ((m:Int)+2)
     | 4=>v = .int .i64 (k:Int)
     | 5=>v = .pointer (some ⟨gx,k,none⟩)
     | 6=>v = .int .i64 (idT ts (zDx T k):Int)
     | 7=>v = .int .i64 (k:Int)
     | 8=>v = .pointer (some ⟨gy,k,none⟩)
     | _=>v = .int .i64 (idT ts (zDx U k):Int)) (by kernel_rfl) (by kernel_rfl) 57 (by kernel_rfl) (by rfl) ?_ ?_ ?_
    · intro i hi v u1 u2 hb h
      match i,hi with
      | 0,_=>exact h
      | 1,_=>exact h
      | 2,_=>exact h
      | 3,_=>exact h
      | 4,_=>exact h
      | 5,_=>exact h
      | 6,_=>exact h
      | 7,_=>exact h
      | 8,_=>exact h
      | 9,_=>exact h
    · intro i o hi ho ρ w1 hb hc1 hc2 hc3 hk
      match i,hi with
      | 0, _ =>
        obtain rfl:=Option.some.inj ho;have g0:ρ (.tmp 5) = .pointer (some ⟨pv,0,none⟩):=hk 5 (by simp [Op.operands,Call.operands])
        have k1:=KV.out.later hb;have z0:=k1.cell 0 rfl;clear hk hb IH hcor HI HH HS;go_simp;exact Below.refl _ _
      | 1, _ =>
        obtain rfl:=Option.some.inj ho;have g0:ρ (.tmp 6) = .pointer (some ⟨w.heap.size,0,none⟩):=hk 6 (by simp [Op.operands,Call.operands])
        have k1:=KC.out.later hb;obtain ⟨z0,z1,z2,z3⟩:=k1.c4;clear hk hb IH hcor HI HH HS;go_simp;exact Below.refl _ _
      | 2, _ =>
        obtain rfl:=Option.some.inj ho;have g0:ρ (.tmp 11) = .int .i64 (k:Int):=hk 11 (by simp [Op.operands,Call.operands])
        clear hk hb IH hcor HI HH HS;go_simp;exact Below.refl _ _
      | 3, _ =>
        obtain rfl:=Option.some.inj ho;have g0:ρ (.tmp 46)=zH a.x a.y a.z ((m:Int)+3):=hk 46 (by simp [Op.operands,Call.operands])
        have g1:ρ (.tmp 47) = .int .i64 (k:Int):=hk 47 (by simp [Op.operands,Call.operands])
        have h4:=hcork.out w1;have H4:=Bx.mk h4;clear h4;clear hk hb IH hcor HI HH HS;go_simp
        all_goals exact H4.out
      | 4, _ =>
        obtain rfl:=Option.some.inj ho;have g0:ρ (.tmp 11) = .int .i64 (k:Int):=hk 11 (by simp [Op.operands,Call.operands])
        clear hk hb IH hcor HI HH HS;go_simp;exact Below.refl _ _
      | 5, _ =>
        obtain rfl:=Option.some.inj ho;have g0:ρ (.tmp 9) = .pointer (some ⟨gx,0,none⟩):=hk 9 (by simp [Op.operands,Call.operands])
        have g1:ρ (.tmp 49) = .int .i64 (k:Int):=hk 49 (by simp [Op.operands,Call.operands])
        clear hk hb IH hcor HI HH HS;go_simp;exact Below.refl _ _
      | 6, _ =>
        obtain rfl:=Option.some.inj ho;have g0:ρ (.tmp 50) = .pointer (some ⟨gx,k,none⟩):=hk 50 (by simp [Op.operands,Call.operands])
        have z0:=(HX.out.of_block (hb.block gx HX.out.lt)).cell hlt;clear hk hb IH hcor HI HH HS;go_simp;exact Below.refl _ _
      | 7, _ =>
        obtain rfl:=Option.some.inj ho;have g0:ρ (.tmp 11) = .int .i64 (k:Int):=hk 11 (by simp [Op.operands,Call.operands])
        clear hk hb IH hcor HI HH HS;go_simp;exact Below.refl _ _
      | 8, _ =>
        obtain rfl:=Option.some.inj ho;have g0:ρ (.tmp 10) = .pointer (some ⟨gy,0,none⟩):=hk 10 (by simp [Op.operands,Call.operands])
        have g1:ρ (.tmp 52) = .int .i64 (k:Int):=hk 52 (by simp [Op.operands,Call.operands])
        clear hk hb IH hcor HI HH HS;go_simp;exact Below.refl _ _
      | 9, _ =>
        obtain rfl:=Option.some.inj ho;have g0:ρ (.tmp 53) = .pointer (some ⟨gy,k,none⟩):=hk 53 (by simp [Op.operands,Call.operands])
        have z0:=(HY.out.of_block (hb.block gy HY.out.lt)).cell hlt;clear hk hb IH hcor HI HH HS;go_simp;exact Below.refl _ _
    · intro vs W1 hlen hb hR
      match vs,hlen with
      | [v0, v1, v2, v3, v4, v5, v6, v7, v8, v9], _ =>
        have r0:v0=zIW ps po pv:=hR 0 v0 rfl;have r1:v1=zH a.x a.y a.z ((m:Int)+3):=hR 1 v1 rfl;have r2:v2 = .int .i64 (k:Int):=hR 2 v2 rfl;have r3:v3=zH (a.x+chX k (2 ^ (m+2))) (a.y+chY k (2 ^ (m+2))) (a.z+chZ k (2 ^ (m+2))) ((m:Int)+2):=hR 3 v3 rfl;have r4:v4 = .int .i64 (k:Int):=hR 4 v4 rfl;have r5:v5 = .pointer (some ⟨gx,k,none⟩):=hR 5 v5 rfl;have r6:v6 = .int .i64 (idT ts (zDx T k):Int):=hR 6 v6 rfl;have r7:v7 = .int .i64 (k:Int):=hR 7 v7 rfl;have r8:v8 = .pointer (some ⟨gy,k,none⟩):=hR 8 v8 rfl;have r9:v9 = .int .i64 (idT ts (zDx U k):Int):=hR 9 v9 rfl;have hst:=HI.out.st.later hb;have hvis:=Bx.mk (IH.out k hlt _ W1 (fun j hj=>.inl hj) hst.bel hst);have HBb:=Bx.mk hb;subst r0 r1 r2 r3 r4 r5 r6 r7 r8 r9;clear hR hst hb KV KC HX HY hcork;simp only [zAk,List.take_succ_cons,List.take_zero,List.drop_succ_cons,List.drop_zero,List.map_cons,List.map_nil,List.zip_cons_cons,List.zip_nil_right,List.foldl_cons,List.foldl_nil];go_wp2_with fail;refine hvis.out.mono ?_;rintro _ w5 hp;obtain ⟨rfl,hst5,hk5⟩:=hp;have kc5:Bk w5 w.heap.size #[a.x,a.y,a.z,.int .i64 ((m:Int)+3)] 52:=(hk5 _ (.inr (.inl rfl)) (by have:=HH.out.lt _ HH.out.av.2.1;omega)).trans (HI.out.kc.later HBb.out)
        have hpo:=HH.out.lt _ HH.out.av.2.1;have HJ:Bx (DL w0 w Av (fun k=>Av k∨k=w.heap.size∨k=gx∨k=gy) ps po pv sb gx gy ts T U a ((m:Int)+3) (L++D (k+1)) w5):=⟨⟨hst5,kc5,HI.out.kx.of_block ((hk5 gx (.inr (.inr (.inl rfl))) (by omega)).trans (HBb.out.block gx HI.out.kx.lt)),HI.out.ky.of_block ((hk5 gy (.inr (.inr (.inr rfl))) (by omega)).trans (HBb.out.block gy HI.out.ky.lt)),fun j hj hne=>((hk5 j (.inl hj) hne).trans (HBb.out.block j (HI.out.st.lt j (.inl hj)))).trans (HI.out.keep j hj hne)⟩⟩
        clear hst5 hk5 kc5 hpo HI HBb hvis;go_wp2_with fail
        go_roundw
        case rel=>exact ⟨k+1,by omega,by go_num,HJ⟩
        case measure=>simp [intOf];omega
  · obtain rfl:k=8:=by omega
    have t0:decide (((8:Nat):Int)<8)=false:=by decide
    go_wp2_with fail
    go_end0
    exact ⟨rfl,HI.out.st.avoid (Below.refl _ _) (fun k hk=>.inl (.inl hk)) (fun k hk=>HI.out.st.lt k (.inl hk)) HH.out.av,HI.out.keep⟩
theorem zGt {ts:List Tr} (hG:Good ts) : ∀ (t:Tr),t∈ts → ∀ us:List Tr,(∀ x∈us,x∈ts) → ∀ x∈Tr.add t us,x∈ts
 | .uni c, ht, us, hs => by
   rw [Tr.add_uni];intro x hx;rcases Tr.of_mem_ins hx with h | rfl
   · exact hs _ h
   · exact ht
 | .brick l, ht, us, hs => by
   rw [Tr.add_brick];intro x hx;rcases Tr.of_mem_ins hx with h | rfl
   · exact hs _ h
   · exact ht
 | .node d ch, ht, us, hs => by
   rw [Tr.add_node];split
   · exact hs
   · intro x hx;rw [List.mem_append] at hx;rcases hx with hx | hx
     · exact Tr.addK_ind (P:=fun a => ∀ x∈a,x∈ts) (fun i a ha=>zGt hG (ch i) (hG.closed.2 d ch ht i) a ha) 8 (Nat.le_refl _) us hs x hx
     · rw [List.mem_singleton] at hx;subst hx;exact ht
theorem zJx:Keyed Tryz.prog 3:=int_keyed Tryz.underlying3
theorem zFk (ts:List Tr) (t:Tr) (h:idT ts t≤9223372036854775807):keyOf Tryz.prog 3 (.int .i64 (idT ts t:Int))=some (.int .i64 (idT ts t:Int)):=keyOf_int_mk Tryz.underlying3 (WalkArith.wf_i64 ⟨by omega,by omega⟩)
abbrev zMi (pm ps pv po:Nat):Value:=.func (.func 84) #[] #[.pointer (some ⟨pm,0,none⟩),.pointer (some ⟨ps,0,none⟩),.pointer (some ⟨pv,0,none⟩),.pointer (some ⟨po,0,none⟩)]
noncomputable abbrev zJj (ts us:List Tr):List Int:=us.map fun t=>(idT ts t:Int)
theorem ne_id {ts:List Tr} {t T:Tr} (ht:t∈ts) (hT:T∈ts) (e : ¬t=T):(Value.int .i64 (idT ts t:Int)) ≠ .int .i64 (idT ts T:Int):=by
 have hne:idT ts t ≠ idT ts T:=fun h=>e (zx ht hT h);generalize idT ts t=a at *;generalize idT ts T=b at *;intro h;injection h with _ h;omega
structure NSt (w0:World) (ps po pv pm mb sb:Nat) (ts us An:List Tr) (W:World):Prop where
 bel:Below w0.heap.size w0 W
 ks:Bk W ps #[.pointer (some ⟨sb,0,none⟩)] 33
 kv:Bk W pv #[zMi pm ps pv po] 133
 km:Bk W pm #[.map (some mb)] 132
 ko : ∃ v,Bk W po #[v] 26∧Own W w0.heap.size 3 .i64 v (zJj ts us) ∧ ∀ g,v.ownBlock=some g→g ≠ ps∧g ≠ pv∧g ≠ pm∧g ≠ mb∧g ≠ po
 mp : ∃ f,MapV 3 W mb (us.length+An.length) f ∧ ∀ t∈ts,(t∈us∨t∈An→f (.int .i64 (idT ts t:Int))=some (.bool true))∧(¬(t∈us∨t∈An)→f (.int .i64 (idT ts t:Int))=none)
 ge:w0.heap.size≤ps∧w0.heap.size≤po∧w0.heap.size≤pv∧w0.heap.size≤pm∧w0.heap.size≤mb
 ne:ps ≠ po∧pv ≠ po∧pm ≠ po∧mb ≠ po∧mb ≠ ps∧mb ≠ pv∧mb ≠ pm
theorem NSt.later {w0 W W':World} {ps po pv pm mb sb:Nat} {ts us An:List Tr} (h:NSt w0 ps po pv pm mb sb ts us An W) (hb:Below W.heap.size W W'):NSt w0 ps po pv pm mb sb ts us An W':=by
 obtain ⟨v,k1,k2,k3⟩:=h.ko;obtain ⟨f,f1,f2⟩:=h.mp;exact ⟨h.bel.trans (hb.mono h.bel.size),h.ks.later hb,h.kv.later hb,h.km.later hb,⟨v,k1.later hb,k2.below hb,k3⟩,⟨f,f1.of_block (hb.block _ f1.lt),f2⟩,h.ge,h.ne⟩
theorem zKo (u:World):(zeroValue 4).run Tryz.prog u = .ok (.bool false) u:=by go_simp
theorem NSt.look {w0 W:World} {ps po pv pm mb sb:Nat} {ts us An:List Tr} (h:NSt w0 ps po pv pm mb sb ts us An W) (hlen:ts.length≤4194304) {T:Tr} (hT:T∈ts) :
 ((T∈us∨T∈An)→(Instr.lookup 132 (.map (some mb)) (.int .i64 (idT ts T:Int)) false).run Tryz.prog W = .ok (.bool true) W) ∧
 (¬(T∈us∨T∈An)→(Instr.lookup 132 (.map (some mb)) (.int .i64 (idT ts T:Int)) false).run Tryz.prog W = .ok (.bool false) W):=by
 obtain ⟨f,f1,f2⟩:=h.mp;have hlt:=zEO hT;have hk:=(MapV.look zJx Tryz.underlying132 (zKo W) f1 (zFk ts T (by omega))).1
 refine ⟨fun hm=>?_,fun hm=>?_⟩
 · rw [(f2 T hT).1 hm] at hk;exact hk
 · rw [(f2 T hT).2 hm] at hk;exact hk
theorem NSt.mark {w0 W:World} {ps po pv pm mb sb:Nat} {ts us An:List Tr} (h:NSt w0 ps po pv pm mb sb ts us An W) (hlen:ts.length≤4194304) (hn:us.length+An.length<maxLen) {T:Tr} (hT:T∈ts) :
 ∃ W',(Instr.mapUpdate 132 (.map (some mb)) (.int .i64 (idT ts T:Int)) (.bool true)).run Tryz.prog W = .ok () W'∧NSt w0 ps po pv pm mb sb ts us (T::An) W':=by
 obtain ⟨f,f1,f2⟩:=h.mp;obtain ⟨v,k1,k2,k3⟩:=h.ko;have hlt:=zEO hT;obtain ⟨W',hr,m1,m2,m3⟩:=MapV.put zJx Tryz.underlying132 f1 hn (zFk ts T (by omega)) (.bool true)
 have hbl : ∀ k,k<W.heap.size→k ≠ mb→W'.heap[k]? = W.heap[k]? := fun k hk hne=>m2.block k hk (fun e=>hne (Option.some.inj e));refine ⟨W',hr,⟨?_,(hbl _ h.ks.lt (Ne.symm h.ne.2.2.2.2.1)).trans h.ks,(hbl _ h.kv.lt (Ne.symm h.ne.2.2.2.2.2.1)).trans h.kv,(hbl _ h.km.lt (Ne.symm h.ne.2.2.2.2.2.2)).trans h.km,⟨v,(hbl _ k1.lt (Ne.symm h.ne.2.2.2.1)).trans k1,k2.grown m2 ?_,k3⟩,⟨_,by simpa [Nat.add_assoc] using m1,fun t ht=>⟨fun hm=>?_,fun hm=>?_⟩⟩,h.ge,h.ne⟩⟩
 · exact h.bel.trans ⟨m2.os,m2.tape,m2.output,m2.size,fun k hk=>hbl k (Nat.lt_of_lt_of_le hk h.bel.size) (by have:=h.ge.2.2.2.2;omega)⟩
 · right;intro e;exact (k3 mb e).2.2.2.1 rfl
 · by_cases e:t=T
   · subst e;exact zBV _ _ _
   · have hne:(Value.int .i64 (idT ts t:Int)) ≠ .int .i64 (idT ts T:Int):=ne_id ht hT e;rw [zAL f _ hne];refine (f2 t ht).1 (hm.imp_right fun hm=>?_);rcases List.mem_cons.1 hm with rfl | hm
     · exact absurd rfl e
     · exact hm
 · have e:t ≠ T:=fun e=>hm (.inr (e ▸ List.mem_cons_self));have hne:(Value.int .i64 (idT ts t:Int)) ≠ .int .i64 (idT ts T:Int):=ne_id ht hT e;rw [zAL f _ hne];exact (f2 t ht).2 fun hm'=>hm (hm'.imp_right fun h=>List.mem_cons_of_mem _ h)
theorem NSt.push {w0 W W3:World} {ps po pv pm mb sb:Nat} {ts us An:List Tr} {T:Tr} {v v':Value} (h:NSt w0 ps po pv pm mb sb ts us (T::An) W) (hk:Bk W po #[v] 26) (hg:W.grownBy W3 v.ownBlock) (hown:Own W3 w0.heap.size 3 .i64 v' (zJj ts us++[(idT ts T:Int)])) (hat:v'.ownBlock=v.ownBlock∨(∃ g,v'.ownBlock=some g∧W.heap.size≤g)) :
 NSt w0 ps po pv pm mb sb ts (us++[T]) An (W3.setCell ⟨po,0,none⟩ v'):=by
 obtain ⟨v2,k1,k2,k3⟩:=h.ko
 obtain rfl:v2=v:=by
  have e:=(k1.cell 0 rfl).symm.trans (hk.cell 0 rfl);simpa using e
 obtain ⟨f,f1,f2⟩:=h.mp;have hlps:=h.ks.lt;have hlpv:=h.kv.lt;have hlpm:=h.km.lt;have hlpo:=k1.lt;have hlmb:=f1.lt
 have hnv : ∀ g,v'.ownBlock=some g→g ≠ ps∧g ≠ pv∧g ≠ pm∧g ≠ mb∧g ≠ po:=by
  intro g hgv;rcases hat with e | ⟨g',e,hge⟩
  · exact k3 g (e.symm.trans hgv)
  · rw [e] at hgv;obtain rfl:=Option.some.inj hgv;refine ⟨?_,?_,?_,?_,?_⟩ <;> omega
 have keep : ∀ k,k<W.heap.size→k ≠ po→v2.ownBlock ≠ some k→(W3.setCell ⟨po,0,none⟩ v').heap[k]? = W.heap[k]? := fun k hk hne hno=>(RowKit.Below.heap_setCell _ _ _ _ (fun e=>hne e)).trans (hg.block k hk (fun e=>hno e.symm));have hpo:Bk W3 po #[v2] 26:=(hg.block po hlpo (fun e=>(k3 po e.symm).2.2.2.2 rfl)).trans k1;have hgs:=zS W3 ⟨po,0,none⟩ v';refine ⟨?_,(keep ps hlps h.ne.1 (fun e=>(k3 _ e).1 rfl)).trans h.ks,(keep pv hlpv h.ne.2.1 (fun e=>(k3 _ e).2.1 rfl)).trans h.kv,(keep pm hlpm h.ne.2.2.1 (fun e=>(k3 _ e).2.2.1 rfl)).trans h.km,⟨v',Bk.put1 hpo v',?_,hnv⟩,⟨f,?_,fun t ht=>?_⟩,h.ge,h.ne⟩
 · refine h.bel.trans ⟨hgs.os.trans hg.os,hgs.tape.trans hg.tape,hgs.output.trans hg.output,Nat.le_trans hg.size hgs.size,fun k hk=>?_⟩;refine keep k (Nat.lt_of_lt_of_le hk h.bel.size) (by have:=h.ge.2.1;omega) (fun e=>?_)
   have:=(k2.lt k e).1;omega
 · rw [show zJj ts (us++[T])=zJj ts us++[(idT ts T:Int)] by simp [zJj]]
   exact Own.grown hown hgs (by
    cases hv:v'.ownBlock with
    | none=>exact .inl rfl
    | some g=>exact .inr (fun e=>(hnv g hv).2.2.2.2 (by injection e)))
 · have:=f1.of_block (keep mb hlmb h.ne.2.2.2.1 (fun e=>(k3 _ e).2.2.2.1 rfl));simpa [Nat.add_assoc,Nat.add_comm 1] using this
 · rw [List.mem_append,List.mem_singleton];have:=f2 t ht;rw [List.mem_cons] at this;refine ⟨fun hm=>this.1 ?_,fun hm=>this.2 (fun h=>hm ?_)⟩
   · rcases hm with (hm | hm) | hm
     · exact .inl hm
     · exact .inr (.inl hm)
     · exact .inr (.inr hm)
   · rcases h with h | h | h
     · exact .inl (.inl h)
     · exact .inl (.inr h)
     · exact .inr h
end
end Go.Proofs.YtfcbajmjaifjlaaGreatDoor
