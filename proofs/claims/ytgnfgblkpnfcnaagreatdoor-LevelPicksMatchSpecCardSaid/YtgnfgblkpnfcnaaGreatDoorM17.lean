/- Lvp, Rg4, Rmt, Rps, CanP, ShaP, Enp, Stl, Siz, Rtr, Dsn, Add, Mtp, Mtc: joined by program, for one claim. -/
import Derived.Test.YtgnfgblkpnfcnaaGreatDoorM16
import Derived.Test.YtgnfgblkpnfcnaaGreatDoorM12
import Derived.Test.YtgnfgblkpnfcnaaGreatDoorM7
import Derived.Deep.RegionHeld3
import Derived.Deep.AppendLies
import Derived.Test.YtgnfgblkpnfcnaaGreatDoorM2
import Derived.Test.YtgnfgblkpnfcnaaGreatDoorM11
import Derived.Deep.DrawnRows
set_option linter.unusedVariables false
set_option linter.unusedSimpArgs false
section
namespace Go.Proofs.YtgnfgblkpnfcnaaGreatDoor
open Go.RowKit
open Oct
structure IsPick (s:Int→Bool) (l:List Int) (r:Int):Prop where
 mem:r∈l
 sol:s r=decide (4≤l.countP s)
 best : ∀ d∈l,s d=decide (4≤l.countP s)→l.count d<l.count r∨(l.count d=l.count r∧r≤d)
theorem IsPick.unique {s:Int→Bool} {l:List Int} {r r':Int} (h:IsPick s l r) (h':IsPick s l r'):r=r':=by
 have h1:=h.best r' h'.mem h'.sol
 have h2:=h'.best r h.mem h.sol
 omega
theorem pick_some (s:Int→Bool) {l:List Int} (hl:l.length=8) : ∃ d∈l,s d=decide (4≤l.countP s):=by
 by_cases h:4≤l.countP s
 · have:0<l.countP s:=by omega
   obtain ⟨d,hd,hs⟩:=List.countP_pos_iff.1 this
   exact ⟨d,hd,by rw [hs];simpa using h⟩
 · have h1:l.countP s<l.length:=by omega
   have h2 : ¬ ∀ a∈l,s a=true:=fun h3=>by rw [List.countP_eq_length.2 h3] at h1;omega
   obtain ⟨d,h3⟩:=Classical.not_forall.1 h2
   obtain ⟨hd,hs⟩:=Classical.not_imp.1 h3
   exact ⟨d,hd,by rw [show s d=false by simpa using hs];simpa using h⟩
theorem pick_least (P:Int→Prop) (m:Int→Nat) : ∀ (l:List Int),(∃ d∈l,P d) → ∃ r∈l,P r ∧ ∀ d∈l,P d→m d<m r∨(m d=m r∧r≤d)
 | [],h=>by obtain ⟨d,hd,_⟩:=h;cases hd
 | x :: l, h => by
   by_cases ht : ∃ d∈l,P d
   · obtain ⟨r,hr,hP,hb⟩:=pick_least P m l ht
     by_cases hx:P x∧(m r<m x∨(m x=m r∧x<r))
     · refine ⟨x,List.mem_cons_self ..,hx.1,fun d hd hPd=>?_⟩
       rcases List.mem_cons.1 hd with rfl | hd
       · exact .inr ⟨rfl,Int.le_refl _⟩
       · have:=hb d hd hPd;have:=hx.2;omega
     · refine ⟨r,List.mem_cons_of_mem _ hr,hP,fun d hd hPd=>?_⟩
       rcases List.mem_cons.1 hd with rfl | hd
       · have : ¬(m r<m d∨(m d=m r∧d<r)):=fun h=>hx ⟨hPd,h⟩
         omega
       · exact hb d hd hPd
   · obtain ⟨d,hd,hPd⟩:=h
     rcases List.mem_cons.1 hd with rfl | hd
     · refine ⟨d,List.mem_cons_self ..,hPd,fun e he hPe=>?_⟩
       rcases List.mem_cons.1 he with rfl | he
       · exact .inr ⟨rfl,Int.le_refl _⟩
       · exact absurd ⟨e,he,hPe⟩ ht
     · exact absurd ⟨d,hd,hPd⟩ ht
theorem pick_exists (s:Int→Bool) {l:List Int} (hl:l.length=8) : ∃ r,IsPick s l r:=by
 obtain ⟨r,h1,h2,h3⟩:=pick_least (fun d=>s d=decide (4≤l.countP s)) (fun d=>l.count d) l (pick_some s hl)
 exact ⟨r,h1,h2,h3⟩
open Classical in
noncomputable def pickV (s:Int→Bool) (l:List Int):Int:=if h : ∃ r,IsPick s l r then h.choose else 0
theorem pickV_spec (s:Int→Bool) {l:List Int} (hl:l.length=8):IsPick s l (pickV s l):=by
 unfold pickV
 rw [dif_pos (pick_exists s hl)]
 exact (pick_exists s hl).choose_spec
theorem pickV_eq {s:Int→Bool} {l:List Int} (hl:l.length=8) {r:Int} (h:IsPick s l r):r=pickV s l:=h.unique (pickV_spec s hl)
theorem pickV_const (s:Int→Bool) {l:List Int} (hl:l.length=8) {c:Int} (h : ∀ x∈l,x=c):pickV s l=c:=h _ (pickV_spec s hl).mem
def eightF (f:Pt→Int) (p:Pt):List Int:=(List.range 8).map fun k=>f ⟨2 * p.x+(k % 2:Nat),2 * p.y+(k / 2 % 2:Nat),2 * p.z+(k / 4:Nat)⟩
theorem eight_len (f:Pt→Int) (p:Pt):(eightF f p).length=8:=by simp [eightF]
noncomputable def halfF (s:Int→Bool) (f:Pt→Int):Pt→Int:=fun p=>pickV s (eightF f p)
theorem half_spec (s:Int→Bool) (f:Pt→Int) (p:Pt):IsPick s (eightF f p) (halfF s f p):=pickV_spec s (eight_len f p)
theorem mem_eight {f:Pt→Int} {p:Pt} {x:Int} (h:x∈eightF f p) : ∃ q:Pt,x=f q∧q.x / 2=p.x∧q.y / 2=p.y∧q.z / 2=p.z:=by
 obtain ⟨k,hk,rfl⟩:=List.mem_map.1 h
 have:=List.mem_range.1 hk
 exact ⟨_,rfl,by simp only;omega,by simp only;omega,by simp only;omega⟩
theorem half_fn {s:Int→Bool} {n:Nat} {f:Pt→Int} (h:FnC (n+1) f):FnC n (halfF s f):=by
 refine ⟨fun p=>?_,fun p hp=>?_⟩
 · obtain ⟨q,e,_⟩:=mem_eight (half_spec s f p).mem
   rw [e];exact h.range q
 · refine pickV_const s (eight_len f p) fun x hx=>?_
   obtain ⟨q,rfl,h1,h2,h3⟩:=mem_eight hx
   refine h.out q ?_
   cases hq:inB q (cubeB (2 ^ (n+1+2))) with
   | false=>rfl
   | true =>
     exfalso
     have hl:=inB_iff.1 hq
     have:inB p (cubeB (2 ^ (n+2)))=true:=inB_iff.2 (by
      simp only [cubeB,Pt.zero] at hl ⊢
      rw [Tr.pow_succ2] at hl
      omega)
     rw [this] at hp;cases hp
def dblP (a:Pt):Pt:=⟨2 * a.x,2 * a.y,2 * a.z⟩
theorem dbl_al {n:Nat} {a:Pt} (h:Tr.Al n a):Tr.Al (n+1) (dblP a):=by
 obtain ⟨h1,h2,h3⟩:=h
 unfold Tr.Al dblP
 rw [Tr.pow_succ2]
 have key : ∀ x:Int,x % 2 ^ (n+2)=0→2 * x % (2 ^ (n+2) * 2)=0:=by
  intro x hx
  obtain ⟨y,hy⟩:=Int.dvd_of_emod_eq_zero hx
  rw [hy,show 2 * (2 ^ (n+2) * y)=2 ^ (n+2) * 2 * y by rw [Int.mul_comm (2 ^ (n+2)) 2,Int.mul_assoc]]
  exact Int.mul_emod_right _ _
 exact ⟨key _ h1,key _ h2,key _ h3⟩
theorem dbl_cor (a:Pt) (n:Nat) (i:Nat):Tr.cor (dblP a) (n+1) i=dblP (Tr.cor a n i):=by
 unfold Tr.cor dblP
 rw [Tr.pow_succ2]
 simp only [Pt.mk.injEq]
 have key : ∀ x y m:Int,2 * x+y * (m * 2)=2 * (x+y * m):=fun x y m=>by
  rw [Int.mul_add,Int.mul_comm m 2,←Int.mul_assoc,Int.mul_comm y 2,Int.mul_assoc]
 exact ⟨key _ _ _,key _ _ _,key _ _ _⟩
theorem in_dbl {n:Nat} {a p q:Pt} (hp:Tr.InC n a p) (h1:q.x / 2=p.x) (h2:q.y / 2=p.y) (h3:q.z / 2=p.z):Tr.InC (n+1) (dblP a) q:=by
 obtain ⟨i1,i2,i3⟩:=hp
 unfold Tr.InC dblP
 rw [Tr.pow_succ2]
 have key : ∀ x y z:Int,z / 2=y→y / 2 ^ (n+2)=x / 2 ^ (n+2)→z / (2 ^ (n+2) * 2)=2 * x / (2 ^ (n+2) * 2):=by
  intro x y z h h'
  rw [Int.mul_comm _ 2,←Int.ediv_ediv_of_nonneg (by decide),h,h',←Int.ediv_ediv_of_nonneg (by decide),Int.mul_ediv_cancel_left _ (by decide)]
 exact ⟨key _ _ _ h1 i1,key _ _ _ h2 i2,key _ _ _ h3 i3⟩
theorem can_const {c:Int} : ∀ (n:Nat) (a:Pt) (f:Pt→Int),Tr.Al n a→(∀ p,Tr.InC n a p→f p=c)→Tr.can f n a = .uni c
 | 0, a, f, ha, h => by
   unfold Tr.can Tr.mkBrick
   have key : ∀ x∈(List.range 64).map fun k=>f (Tr.cellAt a k),x=c:=by
    intro x hx
    obtain ⟨k,hk,rfl⟩:=List.mem_map.1 hx
    exact h _ (Tr.inC_cell ha (List.mem_range.1 hk) rfl).1
   have h0:((List.range 64).map fun k=>f (Tr.cellAt a k)).headD 0=c:=by
    rw [show List.range 64=0::(List.range 63).map Nat.succ from List.range_succ_eq_map]
    simp only [List.map_cons,List.headD_cons]
    exact key _ (List.mem_map.2 ⟨0,by simp,rfl⟩)
   rw [h0,if_pos key]
 | n + 1, a, f, ha, h => by
   have key : ∀ i:Fin 8,Tr.can f n (Tr.cor a n i.val) = .uni c:=fun i=>can_const n _ f (Tr.al_cor ha _) fun p hp=>h p (Tr.inC_other ha hp).2
   unfold Tr.can Tr.mkInner
   rw [if_pos ⟨⟨c,key 0⟩,fun i=>(key i).trans (key 0).symm⟩]
   exact key 0
theorem half_uni {s:Int→Bool} {f:Pt→Int} {n:Nat} {a:Pt} {c:Int} (ha:Tr.Al n a) (h:Tr.can f (n+1) (dblP a) = .uni c):Tr.can (halfF s f) n a = .uni c:=by
 refine can_const n a _ ha fun p hp=>pickV_const s (eight_len f p) fun x hx=>?_
 obtain ⟨q,rfl,h1,h2,h3⟩:=mem_eight hx
 have:=Tr.get_can f (n+1) (dblP a) q (dbl_al ha) (in_dbl hp h1 h2 h3)
 rw [h] at this
 exact this.symm
noncomputable def halfT (s:Int→Bool):Tr→Tr
 | .uni c=>.uni c
 | .brick l=>.brick l
 | .node d ch=>if d=3 then Tr.can (halfF s fun p=>Tr.getT (.node d ch) 1 p) 0 ⟨0,0,0⟩ else Tr.mkInner (d - 1) fun i=>halfT s (ch i)
theorem al0 (n:Nat):Tr.Al n ⟨0,0,0⟩:=by unfold Tr.Al;simp
theorem can_kid' (f:Pt→Int) (n:Nat) (a:Pt) (i:Fin 8):(Tr.can f (n+1) a).kid i=Tr.can f n (Tr.cor a n i.val):=Tr.mkInner_kid (n+3) (fun i:Fin 8=>Tr.can f n (Tr.cor a n i.val)) i
theorem half_can (s:Int→Bool) (f:Pt→Int) : ∀ (n:Nat) (a:Pt),Tr.Al n a→halfT s (Tr.can f (n+1) (dblP a))=Tr.can (halfF s f) n a
 | 0, a, ha => by
   cases ht:Tr.can f (0+1) (dblP a) with
   | uni c=>rw [half_uni ha ht];rfl
   | brick l =>
     exfalso
     unfold Tr.can Tr.mkInner at ht
     split at ht
     · rename_i h;obtain ⟨⟨c,hc⟩,_⟩:=h;rw [hc] at ht;cases ht
     · cases ht
   | node d ch =>
     have hd:d=3:=by
      unfold Tr.can Tr.mkInner at ht
      split at ht
      · rename_i h;obtain ⟨⟨c,hc⟩,_⟩:=h;rw [hc] at ht;cases ht
      · injection ht with h1;exact h1.symm
     subst hd
     unfold halfT
     rw [if_pos rfl,←ht]
     unfold Tr.can
     congr 1
     refine List.map_congr_left fun k hk=>?_
     have hk:=List.mem_range.1 hk
     unfold halfF
     congr 1
     unfold eightF
     refine List.map_congr_left fun j hj=>?_
     have hj:=List.mem_range.1 hj
     -- the cell at the origin's cube,and at this one
     obtain ⟨a1,a2,a3⟩:=ha
     have e4:(2:Int) ^ (0+2)=4:=by decide
     rw [e4] at a1 a2 a3
     have hin:Tr.InC (0+1) (dblP a) ⟨2 * (Tr.cellAt a k).x+(j % 2:Nat),2 * (Tr.cellAt a k).y+(j / 2 % 2:Nat),2 * (Tr.cellAt a k).z+(j / 4:Nat)⟩:=by
      unfold Tr.InC dblP Tr.cellAt
      rw [show (2:Int) ^ (0+1+2)=8 by decide]
      simp only
      omega
     rw [←Tr.get_can f (0+1) (dblP a) _ (dbl_al ⟨by rw [e4];exact a1,by rw [e4];exact a2,by rw [e4];exact a3⟩) hin,ht]
     have same : ∀ p q:Pt,p.x % 8=q.x % 8→p.y % 8=q.y % 8→p.z % 8=q.z % 8→Tr.getT (.node 3 ch) 1 p=Tr.getT (.node 3 ch) 1 q:=by
      intro p q h1 h2 h3
      have ho:Tr.oct 0 p=Tr.oct 0 q:=by
       apply Fin.ext
       show Tr.octN 0 p=Tr.octN 0 q
       unfold Tr.octN
       rw [show (2:Int) ^ (0+2)=4 by decide]
       omega
      have hi:Tr.idx p=Tr.idx q:=by unfold Tr.idx;omega
      unfold Tr.getT
      rw [ho]
      cases ch (Tr.oct 0 q) with
      | uni c=>rfl
      | brick l=>unfold Tr.getT;rw [hi]
      | node d ch=>rfl
     refine same _ _ ?_ ?_ ?_ <;> (unfold Tr.cellAt;simp only;omega)
 | n + 1, a, ha => by
   have ih : ∀ i:Fin 8,halfT s ((Tr.can f (n+1+1) (dblP a)).kid i)=Tr.can (halfF s f) n (Tr.cor a n i.val):=fun i=>by
    rw [can_kid',dbl_cor]
    exact half_can s f n _ (Tr.al_cor ha _)
   cases ht:Tr.can f (n+1+1) (dblP a) with
   | uni c=>rw [half_uni ha ht];rfl
   | brick l =>
     exfalso
     unfold Tr.can Tr.mkInner at ht
     split at ht
     · rename_i h;obtain ⟨⟨c,hc⟩,_⟩:=h;rw [hc] at ht;cases ht
     · cases ht
   | node d ch =>
     have hd:d=n+4:=by
      unfold Tr.can Tr.mkInner at ht
      split at ht
      · rename_i h;obtain ⟨⟨c,hc⟩,_⟩:=h;rw [hc] at ht;cases ht
      · injection ht with h1;omega
     subst hd
     unfold halfT
     rw [if_neg (by omega)]
     rw [ht] at ih
     show Tr.mkInner (n+3) _=_
     rw [show Tr.can (halfF s f) (n+1) a=Tr.mkInner (n+3) fun i=>Tr.can (halfF s f) n (Tr.cor a n i.val) from rfl]
     congr 1
     funext i
     exact ih i
end Go.Proofs.YtgnfgblkpnfcnaaGreatDoor
end
section
namespace Go.Proofs.YtgnfgblkpnfcnaaGreatDoor
open Go.RowKit Go.Sort Go.Maps
open Oct
theorem ref_near (n:Int) (w:World):Calls Tryz.prog 122 #[n] w fun e w'=>e = .returned (.bool (okC n))∧w=w':=by
 by_cases h0 : -1048575≤n
 · by_cases h1:n≤1048575
   · have t0:decide (-1048575≤n)=true:=by simpa using h0
     have t1:decide (n≤1048575)=true:=by simpa using h1
     have hr:okC n=true:=by unfold okC;exact decide_eq_true ⟨h0,h1⟩
     rw [hr]
     clear hr
     go_enter Tryz.func122,Tryz.ntmps122
     go_wp2_with fail
     go_ret
     exact ⟨rfl,rfl⟩
   · have t0:decide (-1048575≤n)=true:=by simpa using h0
     have t1:decide (n≤1048575)=false:=by simpa using h1
     have hr:okC n=false:=by unfold okC;exact decide_eq_false fun h=>h1 h.2
     rw [hr]
     clear hr
     go_enter Tryz.func122,Tryz.ntmps122
     go_wp2_with fail
     go_ret
     exact ⟨rfl,rfl⟩
 · have t0:decide (-1048575≤n)=false:=by simpa using h0
   have hr:okC n=false:=by unfold okC;exact decide_eq_false fun h=>h0 h.1
   rw [hr]
   clear hr
   go_enter Tryz.func122,Tryz.ntmps122
   go_wp2_with fail
   go_ret
   exact ⟨rfl,rfl⟩
theorem ref_mat (n:Int) (w:World):Calls Tryz.prog 76 #[n] w fun e w'=>e = .returned (.bool (Pal.cell n))∧w=w':=by
 rw [Pal.cell_eq]
 by_cases h0:0≤n
 · by_cases h1:n<256
   · have t0:decide (0≤n)=true:=by simpa using h0
     have t1:decide (n<256)=true:=by simpa using h1
     have hr:decide (0≤n∧n≤255)=true:=decide_eq_true ⟨h0,by omega⟩
     rw [hr]
     clear hr
     go_enter Tryz.func76,Tryz.ntmps76
     go_wp2_with fail
     go_ret
     exact ⟨rfl,rfl⟩
   · have t0:decide (0≤n)=true:=by simpa using h0
     have t1:decide (n<256)=false:=by simpa using h1
     have hr:decide (0≤n∧n≤255)=false:=decide_eq_false fun h=>h1 (by omega)
     rw [hr]
     clear hr
     go_enter Tryz.func76,Tryz.ntmps76
     go_wp2_with fail
     go_ret
     exact ⟨rfl,rfl⟩
 · have t0:decide (0≤n)=false:=by simpa using h0
   have hr:decide (0≤n∧n≤255)=false:=decide_eq_false fun h=>h0 h.1
   rw [hr]
   clear hr
   go_enter Tryz.func76,Tryz.ntmps76
   go_wp2_with fail
   go_ret
   exact ⟨rfl,rfl⟩
theorem ref_ranged (px py pz:Int) (w:World):Calls Tryz.prog 75 #[.agg #[px,py,pz]] w fun e w'=>e = .returned (.bool (okP ⟨px,py,pz⟩))∧Below w.heap.size w w':=by
 have h0:=Bx.mk fun W=>ref_near px W
 have h1:=Bx.mk fun W=>ref_near py W
 have h2:=Bx.mk fun W=>ref_near pz W
 have hr:=Bx.mk (show okP ⟨px,py,pz⟩=(okC px && okC py && okC pz) from rfl)
 generalize okC px=x at *
 generalize okC py=y at *
 generalize okC pz=z at *
 cases x with
 | false =>
   go_enter Tryz.func75,Tryz.ntmps75
   go_wp2_with fail
   refine (h0.out _).mono ?_
   rintro _ _ ⟨rfl,rfl⟩
   go_wp2_with fail
   go_ret
   exact ⟨by rw [hr.out];rfl,(Below.refl _ _).alloc (Nat.le_refl _) _⟩
 | true =>
   cases y with
   | false =>
     go_enter Tryz.func75,Tryz.ntmps75
     go_wp2_with fail
     refine (h0.out _).mono ?_
     rintro _ _ ⟨rfl,rfl⟩
     go_wp2_with fail
     refine (h1.out _).mono ?_
     rintro _ _ ⟨rfl,rfl⟩
     go_wp2_with fail
     go_ret
     exact ⟨by rw [hr.out];rfl,(Below.refl _ _).alloc (Nat.le_refl _) _⟩
   | true =>
     go_enter Tryz.func75,Tryz.ntmps75
     go_wp2_with fail
     refine (h0.out _).mono ?_
     rintro _ _ ⟨rfl,rfl⟩
     go_wp2_with fail
     refine (h1.out _).mono ?_
     rintro _ _ ⟨rfl,rfl⟩
     go_wp2_with fail
     refine (h2.out _).mono ?_
     rintro _ _ ⟨rfl,rfl⟩
     go_wp2_with fail
     go_ret
     exact ⟨by rw [hr.out];rfl,(Below.refl _ _).alloc (Nat.le_refl _) _⟩
end Go.Proofs.YtgnfgblkpnfcnaaGreatDoor
end
section
namespace Go.Proofs.YtgnfgblkpnfcnaaGreatDoor
open Go.RowKit Go.Sort Go.Maps
open Oct
structure MtI (w:World) (gl gh gm gx:Nat) (l h m x:Array Value) (wr:World):Prop where
 l:Bk wr gl l 93
 h:Bk wr gh h 93
 m:Bk wr gm m 93
 x:Bk wr gx x 93
 r:Bk wr (w.heap.size+1+1) #[(0:Int),(0:Int),(0:Int),(0:Int),(0:Int),(0:Int)] 25
 b:Below w.heap.size w wr
 d:gl ≠ gh∧gl ≠ gm∧gl ≠ gx∧gh ≠ gm∧gh ≠ gx
 lo:w.heap.size+1+1<gl∧w.heap.size+1+1<gh
theorem MtI.later {w wr w':World} {gl gh gm gx:Nat} {l h m x:Array Value} (H:MtI w gl gh gm gx l h m x wr) (hb:Below wr.heap.size wr w'):MtI w gl gh gm gx l h m x w' :=
 ⟨H.l.later hb,H.h.later hb,H.m.later hb,H.x.later hb,H.r.later hb,H.b.trans (hb.mono H.b.size),H.d,H.lo⟩
end Go.Proofs.YtgnfgblkpnfcnaaGreatDoor
end
section
namespace Go.Proofs.YtgnfgblkpnfcnaaGreatDoor
open Go.RowKit Go.Sort Go.Maps
open Oct
structure RpI (w:World) (gv hv ov:Array Value) (n cap g1 go:Nat) (hb:Option Addr) (ys:List Int) (xs:List Int) (wr:World):Prop where
 kg:Bk wr w.heap.size gv 28
 kh:Bk wr (w.heap.size+1) hv 28
 kr:Bk wr (w.heap.size+1+1) #[(0:Int),(0:Int),(0:Int),(0:Int),(0:Int),(0:Int),.slice none 0 0] 28
 ko:Bk wr go ov 28
 own:Own wr (w.heap.size+1+1+1) 3 .i64 (.slice (some ⟨g1,0,none⟩) n cap) xs
 bel:Below w.heap.size w wr
 sl:Sl wr .i64 hb ys
 lt:w.heap.size+1+1<g1∧g1<go
theorem RpI.later {w wr w':World} {gv hv ov:Array Value} {n cap g1 go:Nat} {hb:Option Addr} {ys xs:List Int} (H:RpI w gv hv ov n cap g1 go hb ys xs wr) (h:Below wr.heap.size wr w'):RpI w gv hv ov n cap g1 go hb ys xs w' :=
 ⟨H.kg.later h,H.kh.later h,H.kr.later h,H.ko.later h,H.own.below h,H.bel.trans (h.mono H.bel.size),H.sl.below h,H.lt⟩
theorem RpI.put {w wr:World} {gv hv ov:Array Value} {n cap g1 go:Nat} {hb:Option Addr} {ys xs:List Int} (H:RpI w gv hv ov n cap g1 go hb ys xs wr) (hn:xs.length=n) (h0:0<n) (hf:ys ≠ [] → ∀ b,hb.map (·.block)=some b→b<w.heap.size) (k:Nat) (x:Int):RpI w gv hv ov n cap g1 go hb ys (xs.set k x) (wr.setCell ⟨g1,k,none⟩ (.int .i64 x)):=by
 have hlt:=H.lt
 obtain ⟨g',cap',he,-,-,-,-,hst⟩:=H.own.at (by omega)
 rw [hn] at he hst
 injection he with h1 h2 h3
 injection h1 with h1
 injection h1 with h1
 subst h1 h3
 refine ⟨H.kg.other _ _ (by simp only;omega),H.kh.other _ _ (by simp only;omega),H.kr.other _ _ (by simp only;omega),H.ko.other _ _ (by simp only;omega),hst k x,H.bel.setCell (by simp only;omega) _,?_,hlt⟩
 intro i y hy
 obtain ⟨b',off',he,hc⟩:=H.sl i y hy
 refine ⟨b',off',he,?_⟩
 have:=hf (by rintro rfl;simp at hy) b' (by rw [he];rfl)
 rw [World.cell?_of_block (heap_setCell_other wr _ _ _ (by simp only;omega))];exact hc
end Go.Proofs.YtgnfgblkpnfcnaaGreatDoor
end
section
namespace Go.Proofs.YtgnfgblkpnfcnaaGreatDoor
open Oct
def fs (F H:Pt→Int) (pt:Nat→Pt):Nat→Pt→Int
 | 0=>F
 | i+1=>Tr.upd (fs F H pt i) (pt i) (H (pt i))
end Go.Proofs.YtgnfgblkpnfcnaaGreatDoor
end
section
namespace Go.Proofs.YtgnfgblkpnfcnaaGreatDoor
open Oct
def shf (d:Pt) (f:Pt→Int):Pt→Int:=fun o=>f ⟨d.x+o.x,d.y+o.y,d.z+o.z⟩
theorem can_shift (d:Pt) (f:Pt→Int) : ∀ (n:Nat) (b:Pt),Tr.can (shf d f) n b=Tr.can f n ⟨d.x+b.x,d.y+b.y,d.z+b.z⟩
 | 0, b => by
   unfold Tr.can
   congr 1
   apply List.map_congr_left
   intro k _
   unfold shf Tr.cellAt
   simp only [Int.add_assoc]
 | n + 1, b => by
   unfold Tr.can
   congr 1
   funext i
   rw [can_shift d f n]
   unfold Tr.cor
   simp only [Int.add_assoc]
def cb (p:Pt) (L:Nat):Box:=⟨p,⟨p.x+2 ^ L,p.y+2 ^ L,p.z+2 ^ L⟩⟩
end Go.Proofs.YtgnfgblkpnfcnaaGreatDoor
end
section
namespace Go.Proofs.YtgnfgblkpnfcnaaGreatDoor
namespace Oct
namespace Tr
def pos (ch:Fin 8→Tr) (k:Nat):Nat:=2+((List.ofFn fun i=>enc (ch i)).take k).flatten.length
def small:Nat→Tr→Prop
 | _,.uni _=>True
 | _,.brick _=>True
 | 0,.node _ _=>False
 | n+1,.node _ ch => ∀ i,small n (ch i)
end Tr
end Oct
end Go.Proofs.YtgnfgblkpnfcnaaGreatDoor
end
section
namespace Go.Proofs.YtgnfgblkpnfcnaaGreatDoor
open Go.RowKit
def Slv (w:World) (a:Option Addr) (vs:List Value):Prop := ∀ i v,vs[i]? = some v → ∃ b off,a=some ⟨b,off,none⟩∧w.cell? ⟨b,off+i,none⟩=some v
theorem Slv.nil (w:World) (a:Option Addr):Slv w a []:=fun i x h=>by simp at h
theorem Slv.below {w w':World} {a:Option Addr} {vs:List Value} (h:Slv w a vs) (hb:Below w.heap.size w w'):Slv w' a vs:=by
 intro i x hx
 obtain ⟨b,off,rfl,hc⟩:=h i x hx
 exact ⟨b,off,rfl,cell_later hb hc⟩
def Ownv (w:World) (B:Nat) (e:TypeId) (v:Value) (vs:List Value):Prop:=w.ownsRow B e 1 v vs.length vs
theorem Ownv.nil (w:World) (B:Nat) (e:TypeId):Ownv w B e (.slice none 0 0) []:=World.ownsRow_nil w B e 1
theorem Ownv.form {w:World} {B:Nat} {e:TypeId} {v:Value} {vs:List Value} (h:Ownv w B e v vs) : ∃ a cap,v = .slice a vs.length cap∧Slv w a vs:=by
 rcases h.2 with ⟨rfl,hn⟩ | ⟨g,cap,cur,rfl,hb,hg,hnc,hcm,hcs,ht⟩
 · have hx:vs=[]:=List.eq_nil_of_length_eq_zero hn
   subst hx
   exact ⟨none,0,rfl,Slv.nil _ _⟩
 · refine ⟨_,cap,rfl,fun i x hx=>⟨g,0,rfl,?_⟩⟩
   have hi:i<vs.length:=(List.getElem?_eq_some_iff.1 hx).1
   have hcell:w.cell? ⟨g,i,none⟩=cur[i]? := by simp [World.cell?,hg]
   rw [Nat.zero_add,hcell]
   rw [←ht,List.getElem?_take,if_pos (by omega)] at hx
   simpa using hx
theorem Slv.grown {w w':World} {g off:Nat} {vs:List Value} {row:Option Nat} (h:Slv w (some ⟨g,off,none⟩) vs) (hg:w.grownBy w' row) (hne:row ≠ some g):Slv w' (some ⟨g,off,none⟩) vs:=by
 intro i x hx
 obtain ⟨b,o,he,hc⟩:=h i x hx
 simp only [Option.some.injEq,Addr.mk.injEq,and_true] at he
 obtain ⟨rfl,rfl⟩:=he
 refine ⟨_,_,rfl,?_⟩
 have hlt:=World.block_lt_of_cell? w _ hc
 rw [World.cell?_of_block (hg.block _ hlt (fun e=>hne e.symm))];exact hc
theorem Ownv.sl {w:World} {B:Nat} {e:TypeId} {a:Option Addr} {n c:Nat} {vs:List Value} (h:Ownv w B e (.slice a n c) vs):Slv w a vs:=by
 obtain ⟨a',c',he,hs⟩:=h.form
 injection he with h1 h2 h3
 subst h1;exact hs
theorem Ownv.lt {w:World} {B:Nat} {e:TypeId} {v:Value} {vs:List Value} (h:Ownv w B e v vs) : ∀ g,v.ownBlock=some g→B≤g∧g<w.heap.size:=World.ownsRow.lt h
theorem Ownv.below {w w':World} {B:Nat} {e:TypeId} {v:Value} {vs:List Value} (h:Ownv w B e v vs) (hb:Below w.heap.size w w'):Ownv w' B e v vs :=
 World.ownsRow.kept (row:=none) h ⟨hb.os,hb.tape,hb.output,hb.size,fun i hi _=>hb.block i hi⟩ (by cases v.ownBlock <;> simp)
theorem Ownv.alloc {w:World} {B:Nat} {e:TypeId} {v:Value} {vs:List Value} (h:Ownv w B e v vs) (o:Obj):Ownv (w.alloc o) B e v vs:=World.ownsRow.alloc h o
theorem Ownv.base {w:World} {B B':Nat} {e:TypeId} {v:Value} {vs:List Value} (h:Ownv w B e v vs) (hB:B'≤B):Ownv w B' e v vs:=by
 refine ⟨h.1,h.2.imp id ?_⟩
 rintro ⟨g,cap,cur,h1,h2,h3⟩
 exact ⟨g,cap,cur,h1,Nat.le_trans hB h2,h3⟩
theorem Ownv.grown {w w':World} {B:Nat} {e:TypeId} {v:Value} {vs:List Value} (h:Ownv w B e v vs) {row:Option Nat} (hg:w.grownBy w' row) (hne:v.ownBlock=none∨v.ownBlock ≠ row):Ownv w' B e v vs:=World.ownsRow.kept h hg hne
theorem wpList_append_val {P:Program} {w:World} {ops:Array Oper} {rest:List Oper} {o:Oper} {a:Act} {Q:Exit→Act→World→Prop} (hgd:o.guard=none) (s x:Operand) (t:TypeId)
 (ho:o.op = .call { callee:=.builtin .append,args:=#[s,x],argTypes:=#[t,t] })
 (e:TypeId) (z:Value) (bytes:Nat) (hbz:bytes≤24) (ht:P.underlying t=some (.slice e))
 (hi:(P.info? e).map (fun i=>(i.zero,i.size,i.bytes))=some (some z,1,bytes)) (hzs:z.cells.size=1)
 (B:Nat) (v:Value) (vs:List Value) (hs:a.eval s=v) (hown:Ownv w B e v vs) (u:Value) (hu1:u.oneCell'=true)
 (ad:Addr) (c:Nat) (hx:a.eval x = .slice (some ad) 1 c) (hcell:w.cell? ad=some u) (hlen:vs.length≤1000000000) (hbase:B≤w.heap.size)
 (h : ∀ v' w',Ownv w' B e v' (vs++[u])→w.grownBy w' v.ownBlock→(v'.ownBlock=v.ownBlock∨v'.ownBlock=some w.heap.size)→wpList P ops Q rest (a.put o.dst v') w') :
 wpList P ops Q (o::rest) a w:=by
 obtain ⟨i0,hi0,hz0,hz1,hz2⟩:=info_parts hi
 refine wpList_plain hgd fun K hK=>?_
 have hnews : ∀ j u',[u][j]? = some u'→w.cell? (ad.add j)=some u':=by
  intro j u' hu
  match j with
  | 0=>simp at hu;subst hu;simpa [Addr.add] using hcell
  | j+1=>simp at hu
 obtain ⟨v',w',hr,h2,h3,_,h4⟩:=run_append_own_at (P:=P) w B t o.type e i0 z 1 bytes ht hi0 hz0 hz1 hz2 hzs (by omega) v vs.length _ hown ad 1 c [u] rfl hnews (by simpa using hu1)
  (by simp only [maxLen];omega) (by have:(vs.length+1) * bytes≤(vs.length+1) * 24:=Nat.mul_le_mul_left _ hbz;omega) hbase
 unfold Oper.wp execOp
 simp only [ho,resolve,invoke,builtin,Sem.run_bind,Sem.run_pure,Result.andThen_ok,List.map_toArray,List.map_cons,List.map_nil,hs,hx,hr]
 exact hK _ _ (h v' w' (by unfold Ownv;simpa using h2) h3 h4)
def strs (ls:List (List Int)):List Value:=ls.map fun l=>.string (strOfNums l)
theorem strs_length (ls:List (List Int)):(strs ls).length=ls.length:=by unfold strs;rw [List.length_map]
theorem strs_at {ls:List (List Int)} {i:Nat} {l:List Int} (h:ls[i]? = some l):(strs ls)[i]? = some (.string (strOfNums l)):=by unfold strs;rw [List.getElem?_map,h];rfl
theorem strs_snoc (ls:List (List Int)) (l:List Int):strs (ls++[l])=strs ls++[.string (strOfNums l)]:=by unfold strs;rw [List.map_append];rfl
def RowKeeps (w w':World) (v:Value) (n:Nat):Prop := ∀ g,v.ownBlock=some g → ∀ cur e,w.heap[g]? = some (.cells cur e (0,0)) → ∃ cur',w'.heap[g]? = some (.cells cur' e (0,0))∧cur'.size=cur.size∧cur'.toList.take n=cur.toList.take n
structure Added (w w':World) (v v':Value) (n:Nat):Prop where
 grown:w.grownBy w' v.ownBlock
 keeps:RowKeeps w w' v n
 where_:v'.ownBlock=v.ownBlock ∨ ∀ g,v'.ownBlock=some g→w.heap.size≤g
theorem Added.refl (w:World) (v:Value) (n:Nat):Added w w v v n:=⟨⟨rfl,rfl,rfl,Nat.le_refl _,fun _ _ _=>rfl⟩,fun _ _ cur _e h=>⟨cur,h,rfl,rfl⟩,.inl rfl⟩
theorem Added.below {w w1 w':World} {v v':Value} {n:Nat} (h:Added w w1 v v' n) (hb:Below w1.heap.size w1 w'):Added w w' v v' n:=by
 refine ⟨⟨hb.os.trans h.grown.os,hb.tape.trans h.grown.tape,hb.output.trans h.grown.output,Nat.le_trans h.grown.size hb.size,fun k hk hne=>(hb.block k (Nat.lt_of_lt_of_le hk h.grown.size)).trans (h.grown.block k hk hne)⟩,fun g hg cur e hc=>?_,h.where_⟩
 obtain ⟨cur',h1,h2,h3⟩:=h.keeps g hg cur e hc
 exact ⟨cur',(hb.block g (Array.getElem?_eq_some_iff.1 h1).1).trans h1,h2,h3⟩
theorem Added.after {w w1 w':World} {v v':Value} {n:Nat} (hb:Below w.heap.size w w1) (h:Added w1 w' v v' n) (hv : ∀ g,v.ownBlock=some g→g<w.heap.size):Added w w' v v' n:=by
 refine ⟨⟨h.grown.os.trans hb.os,h.grown.tape.trans hb.tape,h.grown.output.trans hb.output,Nat.le_trans hb.size h.grown.size,fun k hk hne=>(h.grown.block k (Nat.lt_of_lt_of_le hk hb.size) hne).trans (hb.block k hk)⟩,fun g hg cur e hc=>?_,?_⟩
 · exact h.keeps g hg cur e ((hb.block g (hv g hg)).trans hc)
 · rcases h.where_ with h1 | h1
   · exact .inl h1
   · exact .inr fun g hg=>Nat.le_trans hb.size (h1 g hg)
theorem Added.trans {w w1 w':World} {v v1 v':Value} {n m:Nat} (h:Added w w1 v v1 n) (h':Added w1 w' v1 v' m) (hnm:n≤m) (hlt : ∀ g,v.ownBlock=some g→g<w.heap.size):Added w w' v v' n:=by
 have hne : ∀ k,k<w.heap.size→some k ≠ v.ownBlock→some k ≠ v1.ownBlock:=fun k hk hne e=>by
  rcases h.where_ with h1 | h1
  · exact hne (by rw [←h1];exact e)
  · have:=h1 k e.symm;omega
 refine ⟨⟨h'.grown.os.trans h.grown.os,h'.grown.tape.trans h.grown.tape,h'.grown.output.trans h.grown.output,Nat.le_trans h.grown.size h'.grown.size,fun k hk hn=>(h'.grown.block k (Nat.lt_of_lt_of_le hk h.grown.size) (hne k hk hn)).trans (h.grown.block k hk hn)⟩,fun g hg cur e hc=>?_,?_⟩
 · obtain ⟨cur1,h1,h2,h3⟩:=h.keeps g hg cur e hc
   rcases h.where_ with he | he
   · obtain ⟨cur',h4,h5,h6⟩:=h'.keeps g (by rw [he];exact hg) cur1 e h1
     refine ⟨cur',h4,h5.trans h2,?_⟩
     have:cur'.toList.take n=cur1.toList.take n:=by
      have h7:=congrArg (List.take n) h6
      rwa [List.take_take,List.take_take,Nat.min_eq_left hnm] at h7
     exact this.trans h3
   · refine ⟨cur1,(h'.grown.block g (Array.getElem?_eq_some_iff.1 h1).1 fun e1=>?_).trans h1,h2,h3⟩
     have:=he g e1.symm
     have:=hlt g hg
     omega
 · rcases h'.where_ with he | he
   · rw [he];exact h.where_
   · exact .inr fun g hg=>Nat.le_trans h.grown.size (he g hg)
theorem Ownv.keep {w w':World} {v v' u:Value} {n B:Nat} {e:TypeId} {vs:List Value} (h:Added w w' v v' n) (hu:Ownv w B e u vs) (hn:vs.length≤n):Ownv w' B e u vs:=by
 by_cases hs:u.ownBlock=v.ownBlock
 · refine ⟨hu.1,?_⟩
   rcases hu.2 with h1 | ⟨g,cap,cur,rfl,hb,hg,hnc,hcm,hcs,ht⟩
   · exact .inl h1
   · obtain ⟨cur',h1,h2,h3⟩:=h.keeps g (by rw [←hs];rfl) cur e hg
     refine .inr ⟨g,cap,cur',rfl,hb,h1,hnc,hcm,h2.trans hcs,?_⟩
     rw [Nat.mul_one] at ht ⊢
     have h7:=congrArg (List.take vs.length) h3
     rw [List.take_take,List.take_take,Nat.min_eq_left hn] at h7
     exact h7.trans ht
 · exact Ownv.grown hu h.grown (.inr hs)
end Go.Proofs.YtgnfgblkpnfcnaaGreatDoor
end
section
namespace Go.Proofs.YtgnfgblkpnfcnaaGreatDoor
open Go.RowKit
open Oct
def kidsE (ch:Fin 8→Tr):List (List Int):=List.ofFn fun i=>Tr.enc (ch i)
end Go.Proofs.YtgnfgblkpnfcnaaGreatDoor
end
section
namespace Go.Proofs.YtgnfgblkpnfcnaaGreatDoor
open Go.RowKit Go.Sort Go.Maps
open Oct
attribute [local go_sem ↓] Go.wp_at_zero Go.wp_at_succ
structure TrI (w:World) (gv pv:Array Value) (ha:Option Addr) (xs:List Int) (v:Value) (vs:List Value) (wr:World):Prop where
 kg:Bk wr w.heap.size gv 28
 kp:Bk wr (w.heap.size+1) pv 23
 own:Ownv wr (w.heap.size+1+1) 9 v vs
 bel:Below w.heap.size w wr
 sl:Sl wr .i64 ha xs
theorem TrI.later {w wr w':World} {gv pv:Array Value} {ha:Option Addr} {xs:List Int} {v:Value} {vs:List Value} (H:TrI w gv pv ha xs v vs wr) (h:Below wr.heap.size wr w'):TrI w gv pv ha xs v vs w' :=
 ⟨H.kg.later h,H.kp.later h,H.own.below h,H.bel.trans (h.mono H.bel.size),H.sl.below h⟩
end Go.Proofs.YtgnfgblkpnfcnaaGreatDoor
end
section
namespace Go.Proofs.YtgnfgblkpnfcnaaGreatDoor
open Go.RowKit Go.Sort Go.Maps
open Oct
noncomputable def kidX (ts:List Tr) (ch:Fin 8→Tr) (k:Nat):Int:=if h:k<8 then (idT ts (ch ⟨k,h⟩):Int) else 0
structure DsI (w:World) (Far:Nat→Prop) (sb:Nat) (most:Int) (ts:List Tr) (ch:Fin 8→Tr) (gc g:Nat) (wr:World):Prop where
 st:StoreIs wr Far sb most ts
 bel:Below w.heap.size w wr
 kc:Bk wr gc #[.int .i64 (kidX ts ch 0),.int .i64 (kidX ts ch 1),.int .i64 (kidX ts ch 2),.int .i64 (kidX ts ch 3),.int .i64 (kidX ts ch 4),.int .i64 (kidX ts ch 5),.int .i64 (kidX ts ch 6),.int .i64 (kidX ts ch 7)] 54
 kids:Slv wr (some ⟨g,0,none⟩) (strs (kidsE ch))
theorem DsI.later {w wr w':World} {Far:Nat→Prop} {sb gc g:Nat} {most:Int} {ts:List Tr} {ch:Fin 8→Tr} (h:DsI w Far sb most ts ch gc g wr) (hb:Below wr.heap.size wr w'):DsI w Far sb most ts ch gc g w' :=
 ⟨h.st.later hb,h.bel.trans (hb.mono h.bel.size),h.kc.later hb,h.kids.below hb⟩
end Go.Proofs.YtgnfgblkpnfcnaaGreatDoor
end
section
namespace Go.Proofs.YtgnfgblkpnfcnaaGreatDoor
open Go.RowKit Go.Sort
open Oct
def encs (ts:List Tr):List Value:=strs (ts.map Tr.enc)
theorem encs_len (ts:List Tr):(encs ts).length=ts.length:=by unfold encs;rw [strs_length,List.length_map]
end Go.Proofs.YtgnfgblkpnfcnaaGreatDoor
end
section
namespace Go.Proofs.YtgnfgblkpnfcnaaGreatDoor
open Go.RowKit Go.Sort Go.Maps
open Oct
structure Ed where
 x:Int
 y:Int
 z:Int
 c:Int
def SlE (w:World) (a:Option Addr) (es:List Ed):Prop := ∀ (i:Nat) (ed:Ed),es[i]? = some ed → ∃ b off,a=some ⟨b,off,none⟩∧w.cell? ⟨b,off+i * 4,none⟩=some (.int .i64 ed.x)∧w.cell? ⟨b,off+i * 4+1,none⟩=some (.int .i64 ed.y)∧w.cell? ⟨b,off+i * 4+2,none⟩=some (.int .i64 ed.z)∧w.cell? ⟨b,off+i * 4+3,none⟩=some (.int .i64 ed.c)
theorem SlE.below {w w':World} {a:Option Addr} {es:List Ed} (h:SlE w a es) (hb:Below w.heap.size w w'):SlE w' a es:=by
 intro i x hx
 obtain ⟨b,off,rfl,h0,h1,h2,h3⟩:=h i x hx
 exact ⟨b,off,rfl,cell_later hb h0,cell_later hb h1,cell_later hb h2,cell_later hb h3⟩
structure MatI (w:World) (Far:Nat→Prop) (sb:Nat) (most:Int) (n:Nat) (F:Pt→Int) (ts us:List Tr) (v:Value) (wr:World):Prop where
 st:StoreIs wr Far sb most ts
 far : ∀ j,Far j→j<wr.heap.size
 old : ∀ j,j<w.heap.size→Far j
 bel:Below w.heap.size w wr
 good:Good ts
 mem:trF n F∈ts
 fn:FnC n F
 own:Ownv wr w.heap.size 9 v (encs us)
 row : ∀ g,v.ownBlock=some g→Far g
theorem Ownv.far {w w':World} {Far:Nat→Prop} {B:Nat} {e:TypeId} {v:Value} {vs:List Value} (h:Ownv w B e v vs) (hk:Keeps Far w w') (hf : ∀ g,v.ownBlock=some g→Far g):Ownv w' B e v vs:=by
 refine ⟨h.1,?_⟩
 rcases h.2 with hn | ⟨g,cap,cur,rfl,hb,hgg,rest⟩
 · exact .inl hn
 · exact .inr ⟨g,cap,cur,rfl,hb,by rw [hk.block g (hf g rfl) (Array.getElem?_eq_some_iff.1 hgg).1];exact hgg,rest⟩
section
variable {w wr w':World} {Far:Nat→Prop} {sb:Nat} {most:Int} {n:Nat} {F F':Pt→Int} {ts us ts' us':List Tr} {v v':Value}
theorem MatI.later (h:MatI w Far sb most n F ts us v wr) (hb:Below wr.heap.size wr w'):MatI w Far sb most n F ts us v w' :=
 ⟨h.st.later hb,fun j hj=>Nat.lt_of_lt_of_le (h.far j hj) hb.size,h.old,h.bel.trans (hb.mono h.bel.size),h.good,h.mem,h.fn,h.own.below hb,h.row⟩
theorem MatI.made (h:MatI w Far sb most n F ts us v wr) (hk:Keeps Far wr w') (hs:StoreIs w' Far sb most ts') (hg:Good ts') (hm:trF n F'∈ts') (hf:FnC n F'):MatI w Far sb most n F' ts' us v w' :=
 ⟨hs,fun j hj=>Nat.lt_of_lt_of_le (h.far j hj) hk.size,h.old,below_of_keeps h.bel hk h.old,hg,hm,hf,h.own.far hk h.row,h.row⟩
theorem MatI.drop {k:Nat} (h:MatI w Far sb most n F ts us v wr) (ha:Added wr w' v v' k) (hk:us.length≤k):MatI w Far sb most n F ts us v w':=by
 have hg:=ha.grown
 have hst:StoreIs w' Far sb most ts:=by
  cases hvo:v.ownBlock with
  | none =>
    rw [hvo] at hg
    exact h.st.later ⟨hg.os,hg.tape,hg.output,hg.size,fun i hi=>hg.block i hi (by simp)⟩
  | some g=>rw [hvo] at hg;exact h.st.apart hg (h.row g hvo)
 exact ⟨hst,fun j hj=>Nat.lt_of_lt_of_le (h.far j hj) hg.size,h.old,h.bel.grown hg h.bel.size (fun g e=>(h.own.lt g e).1),h.good,h.mem,h.fn,h.own.keep ha (by rw [encs_len];exact hk),h.row⟩
end
end Go.Proofs.YtgnfgblkpnfcnaaGreatDoor
end
section
namespace Go.Proofs.YtgnfgblkpnfcnaaGreatDoor
open Go.RowKit Go.Sort Go.Maps
open Oct
noncomputable def idn (ts:List Tr) (n:Nat) (F:Pt→Int):Int:=(idT ts (trF n F):Int)
noncomputable def addn (n:Nat) (F:Pt→Int) (ts:List Tr):List Tr:=Tr.add (trF n F) ts
theorem addn_good {n:Nat} {F:Pt→Int} {ts:List Tr} (hn:n≤12) (hF:FnC n F) (hG:Good ts):Good (addn n F ts):=good_fn hn hF hG
theorem addn_mem (n:Nat) (F:Pt→Int) (ts:List Tr):trF n F∈addn n F ts:=Tr.mem_add _ _
theorem addn_pre (n:Nat) (F:Pt→Int) (ts:List Tr):ts <+: addn n F ts:=Tr.add_prefix _ _
end Go.Proofs.YtgnfgblkpnfcnaaGreatDoor
end
