/- Mb, Mr, M2, M3, M4: joined by program. -/
import Derived.Test.YtfcbajmjaifjlaaGreatM1
import Derived.Lib.QuietBelow
import Derived.StillTail
import Derived.BigQuiet
set_option linter.all false
namespace Go.Proofs.YtfcbajmjaifjlaaGreat
section
open Go.RowKit Go.Sort
def cq:=@cell_regrown
def bq:=@below_regrown
def rq:=@Calls.regrown_of
def wq:=@wpQuiet_nil
theorem wg {P:Program} {id:Nat} {Q:Exit→Act→World→Prop} {a:Act} {w:World} {l:List Oper} (h:wpQuiet P l.toArray (fun w' => ∃ p:Regrown,w'=grow (redrawn w p.d) p.os) (fun a' => ∀ w',(∃ p:Regrown,w'=grow (redrawn w p.d) p.os)→Q .normal a' w') l a) (hm:P.follows .mixedOrders=true:=by kernel_rfl) (hB:Region.lexB .any l.toArray=true:=by kernel_rfl):(Code.region id l.toArray true).wp P Q a w:=wp_region_quiet_below hm hB h
theorem Bk.r2 {w:World} {g:Nat} {x0 x1:Value} {r:List Value} {t:TypeId} (h:Bk w g (x0::x1::r).toArray t):(∀ dk osk,(grow (redrawn w dk) osk).cell? ⟨g,0,none⟩=some x0)∧(∀ dk osk,(grow (redrawn w dk) osk).cell? ⟨g,1,none⟩=some x1) :=
 ⟨cell_regrown (h.cell 0 rfl),cell_regrown (h.cell 1 rfl)⟩
theorem Bk.r3 {w:World} {g:Nat} {x0 x1 x2:Value} {r:List Value} {t:TypeId} (h:Bk w g (x0::x1::x2::r).toArray t):(∀ dk osk,(grow (redrawn w dk) osk).cell? ⟨g,0,none⟩=some x0)∧(∀ dk osk,(grow (redrawn w dk) osk).cell? ⟨g,1,none⟩=some x1)∧(∀ dk osk,(grow (redrawn w dk) osk).cell? ⟨g,2,none⟩=some x2) :=
 ⟨cell_regrown (h.cell 0 rfl),cell_regrown (h.cell 1 rfl),cell_regrown (h.cell 2 rfl)⟩
theorem Bk.r4 {w:World} {g:Nat} {x0 x1 x2 x3:Value} {r:List Value} {t:TypeId} (h:Bk w g (x0::x1::x2::x3::r).toArray t):(∀ dk osk,(grow (redrawn w dk) osk).cell? ⟨g,0,none⟩=some x0)∧(∀ dk osk,(grow (redrawn w dk) osk).cell? ⟨g,1,none⟩=some x1)∧(∀ dk osk,(grow (redrawn w dk) osk).cell? ⟨g,2,none⟩=some x2)∧(∀ dk osk,(grow (redrawn w dk) osk).cell? ⟨g,3,none⟩=some x3) :=
 ⟨cell_regrown (h.cell 0 rfl),cell_regrown (h.cell 1 rfl),cell_regrown (h.cell 2 rfl),cell_regrown (h.cell 3 rfl)⟩
theorem Bk.r5 {w:World} {g:Nat} {x0 x1 x2 x3 x4:Value} {r:List Value} {t:TypeId} (h:Bk w g (x0::x1::x2::x3::x4::r).toArray t):(∀ dk osk,(grow (redrawn w dk) osk).cell? ⟨g,0,none⟩=some x0)∧(∀ dk osk,(grow (redrawn w dk) osk).cell? ⟨g,1,none⟩=some x1)∧(∀ dk osk,(grow (redrawn w dk) osk).cell? ⟨g,2,none⟩=some x2)∧(∀ dk osk,(grow (redrawn w dk) osk).cell? ⟨g,3,none⟩=some x3)∧(∀ dk osk,(grow (redrawn w dk) osk).cell? ⟨g,4,none⟩=some x4) :=
 ⟨cell_regrown (h.cell 0 rfl),cell_regrown (h.cell 1 rfl),cell_regrown (h.cell 2 rfl),cell_regrown (h.cell 3 rfl),cell_regrown (h.cell 4 rfl)⟩
theorem Bk.r6 {w:World} {g:Nat} {x0 x1 x2 x3 x4 x5:Value} {r:List Value} {t:TypeId} (h:Bk w g (x0::x1::x2::x3::x4::x5::r).toArray t):(∀ dk osk,(grow (redrawn w dk) osk).cell? ⟨g,0,none⟩=some x0)∧(∀ dk osk,(grow (redrawn w dk) osk).cell? ⟨g,1,none⟩=some x1)∧(∀ dk osk,(grow (redrawn w dk) osk).cell? ⟨g,2,none⟩=some x2)∧(∀ dk osk,(grow (redrawn w dk) osk).cell? ⟨g,3,none⟩=some x3)∧(∀ dk osk,(grow (redrawn w dk) osk).cell? ⟨g,4,none⟩=some x4)∧(∀ dk osk,(grow (redrawn w dk) osk).cell? ⟨g,5,none⟩=some x5) :=
 ⟨cell_regrown (h.cell 0 rfl),cell_regrown (h.cell 1 rfl),cell_regrown (h.cell 2 rfl),cell_regrown (h.cell 3 rfl),cell_regrown (h.cell 4 rfl),cell_regrown (h.cell 5 rfl)⟩
theorem Bk.r7 {w:World} {g:Nat} {x0 x1 x2 x3 x4 x5 x6:Value} {r:List Value} {t:TypeId} (h:Bk w g (x0::x1::x2::x3::x4::x5::x6::r).toArray t):(∀ dk osk,(grow (redrawn w dk) osk).cell? ⟨g,0,none⟩=some x0)∧(∀ dk osk,(grow (redrawn w dk) osk).cell? ⟨g,1,none⟩=some x1)∧(∀ dk osk,(grow (redrawn w dk) osk).cell? ⟨g,2,none⟩=some x2)∧(∀ dk osk,(grow (redrawn w dk) osk).cell? ⟨g,3,none⟩=some x3)∧(∀ dk osk,(grow (redrawn w dk) osk).cell? ⟨g,4,none⟩=some x4)∧(∀ dk osk,(grow (redrawn w dk) osk).cell? ⟨g,5,none⟩=some x5)∧(∀ dk osk,(grow (redrawn w dk) osk).cell? ⟨g,6,none⟩=some x6) :=
 ⟨cell_regrown (h.cell 0 rfl),cell_regrown (h.cell 1 rfl),cell_regrown (h.cell 2 rfl),cell_regrown (h.cell 3 rfl),cell_regrown (h.cell 4 rfl),cell_regrown (h.cell 5 rfl),cell_regrown (h.cell 6 rfl)⟩
theorem Bk.r8 {w:World} {g:Nat} {x0 x1 x2 x3 x4 x5 x6 x7:Value} {r:List Value} {t:TypeId} (h:Bk w g (x0::x1::x2::x3::x4::x5::x6::x7::r).toArray t):(∀ dk osk,(grow (redrawn w dk) osk).cell? ⟨g,0,none⟩=some x0)∧(∀ dk osk,(grow (redrawn w dk) osk).cell? ⟨g,1,none⟩=some x1)∧(∀ dk osk,(grow (redrawn w dk) osk).cell? ⟨g,2,none⟩=some x2)∧(∀ dk osk,(grow (redrawn w dk) osk).cell? ⟨g,3,none⟩=some x3)∧(∀ dk osk,(grow (redrawn w dk) osk).cell? ⟨g,4,none⟩=some x4)∧(∀ dk osk,(grow (redrawn w dk) osk).cell? ⟨g,5,none⟩=some x5)∧(∀ dk osk,(grow (redrawn w dk) osk).cell? ⟨g,6,none⟩=some x6)∧(∀ dk osk,(grow (redrawn w dk) osk).cell? ⟨g,7,none⟩=some x7) :=
 ⟨cell_regrown (h.cell 0 rfl),cell_regrown (h.cell 1 rfl),cell_regrown (h.cell 2 rfl),cell_regrown (h.cell 3 rfl),cell_regrown (h.cell 4 rfl),cell_regrown (h.cell 5 rfl),cell_regrown (h.cell 6 rfl),cell_regrown (h.cell 7 rfl)⟩
end
section
structure Pt where
 x:Int
 y:Int
 z:Int
deriving DecidableEq
structure Box where
 lo:Pt
 hi:Pt
deriving DecidableEq
def Pt.zero:Pt:=⟨0,0,0⟩
def Box.zero:Box:=⟨Pt.zero,Pt.zero⟩
def Pt.add (p q:Pt):Pt:=⟨p.x+q.x,p.y+q.y,p.z+q.z⟩
def Pt.sub (p q:Pt):Pt:=⟨p.x - q.x,p.y - q.y,p.z - q.z⟩
def inB (p:Pt) (b:Box):Bool:=decide (b.lo.x≤p.x∧p.x<b.hi.x∧b.lo.y≤p.y∧p.y<b.hi.y∧b.lo.z≤p.z∧p.z<b.hi.z)
def zS (b:Box):Bool := !inB b.lo b
def zz (b:Box):Pt:=if zS b=true then Pt.zero else b.hi.sub b.lo
def zAE (b:Box):Int:=(zz b).x * (zz b).y * (zz b).z
def zN (n:Int):Box:=⟨Pt.zero,⟨n,n,n⟩⟩
def zGx (a b:Box):Box:=⟨⟨max a.lo.x b.lo.x,max a.lo.y b.lo.y,max a.lo.z b.lo.z⟩,⟨min a.hi.x b.hi.x,min a.hi.y b.hi.y,min a.hi.z b.hi.z⟩⟩
def zn (a b:Box):Box:=if zS (zGx a b)=true then Box.zero else zGx a b
def zL (a b:Box):Bool:=zS b || decide (zn a b=b)
def ze (b:Box) (p:Pt):Int:=if inB p b=true then ((p.z - b.lo.z) * (zz b).y+(p.y - b.lo.y)) * (zz b).x+(p.x - b.lo.x) else -1
def atB (b:Box) (i:Int):Pt:=if 0≤i∧i<zAE b then ⟨b.lo.x+i % (zz b).x,b.lo.y+i / (zz b).x % (zz b).y,b.lo.z+i / (zz b).x / (zz b).y⟩ else Pt.zero
def okC (n:Int):Bool:=decide (-1048575≤n∧n≤1048575)
def okP (p:Pt):Bool:=okC p.x && okC p.y && okC p.z
def okB (b:Box):Bool:=okP b.lo && okP b.hi
structure Small (b:Box) (m:Int):Prop where
 lx : -m≤b.lo.x
 ly : -m≤b.lo.y
 lz : -m≤b.lo.z
 hx:b.hi.x≤m
 hy:b.hi.y≤m
 hz:b.hi.z≤m
theorem zb {p:Pt} {b:Box}:inB p b=true ↔ b.lo.x≤p.x∧p.x<b.hi.x∧b.lo.y≤p.y∧p.y<b.hi.y∧b.lo.z≤p.z∧p.z<b.hi.z:=by simp [inB]
theorem zT {b:Box}:zS b=false ↔ b.lo.x<b.hi.x∧b.lo.y<b.hi.y∧b.lo.z<b.hi.z:=by simp [zS,inB]
theorem zEj {b:Box}:zS b=true ↔ ¬(b.lo.x<b.hi.x∧b.lo.y<b.hi.y∧b.lo.z<b.hi.z):=by
 rw [←zT];simp
theorem zJK {p:Pt}:okP p=true ↔ (-1048575≤p.x∧p.x≤1048575)∧(-1048575≤p.y∧p.y≤1048575)∧(-1048575≤p.z∧p.z≤1048575):=by simp [okP,okC,and_assoc]
theorem zJG {b:Box} (h:okB b=true):Small b 1048575:=by
 simp only [okB,Bool.and_eq_true,zJK] at h;exact ⟨by omega,by omega,by omega,by omega,by omega,by omega⟩
theorem zMK (b:Box) {m:Int} (hm:0≤m) (h:Small b m):(0≤(zz b).x∧(zz b).x≤2 * m)∧(0≤(zz b).y∧(zz b).y≤2 * m)∧(0≤(zz b).z∧(zz b).z≤2 * m):=by
 unfold zz;obtain ⟨h1,h2,h3,h4,h5,h6⟩:=h;split
 · simp [Pt.zero];omega
 · rename_i he;have:=zT.1 (by simpa using he)
   simp only [Pt.sub];omega
theorem zIf {a b m n:Int} (ha:0≤a) (hb:0≤b) (h:a≤m) (h':b≤n):0≤a * b∧a * b≤m * n :=
 ⟨Int.mul_nonneg ha hb,Int.mul_le_mul h h' hb (Int.le_trans ha h)⟩
theorem zKT (b:Box) {m:Int} (hm:0≤m) (h:Small b m):(0≤(zz b).x * (zz b).y∧(zz b).x * (zz b).y≤2 * m * (2 * m))∧0≤zAE b∧zAE b≤2 * m * (2 * m) * (2 * m):=by
 obtain ⟨⟨x0,x1⟩,⟨y0,y1⟩,z0,z1⟩:=zMK b hm h;have h1:=zIf x0 y0 x1 y1;exact ⟨h1,zIf h1.1 z0 h1.2 z1⟩
theorem zN8 {b:Box} (h:zS b=true):zAE b=0:=by simp [zAE,zz,h,Pt.zero]
theorem zAA {b:Box} (h:zS b=false):zz b=b.hi.sub b.lo:=by simp [zz,h]
theorem zc {p:Pt} {b:Box} (h:inB p b=true):zS b=false:=by
 have:=zb.1 h;rw [zT];omega
theorem zf {p:Pt} {b:Box} (h:inB p b=true):0≤ze b p∧ze b p<zAE b:=by
 have he:=zc h;have h':=zb.1 h;unfold ze zAE;rw [if_pos h,zAA he];simp only [Pt.sub];generalize hx:p.x - b.lo.x=dx;generalize hy:p.y - b.lo.y=dy;generalize hz:p.z - b.lo.z=dz;generalize hsx:b.hi.x - b.lo.x=sx;generalize hsy:b.hi.y - b.lo.y=sy;generalize S9:b.hi.z - b.lo.z=sz;have a1:0≤dx:=by omega
 have a2:dx+1≤sx:=by omega
 have a3:0≤dy:=by omega
 have a4:dy+1≤sy:=by omega
 have a5:0≤dz:=by omega
 have a6:dz+1≤sz:=by omega
 have b1:0≤dz * sy:=Int.mul_nonneg a5 (by omega)
 have b2:dz * sy+sy≤sz * sy:=by
  have:=Int.mul_le_mul_of_nonneg_right a6 (show 0≤sy by omega)
  rw [Int.add_mul,Int.one_mul] at this;exact this
 have b3:0≤(dz * sy+dy) * sx:=Int.mul_nonneg (by omega) (by omega)
 have b4:(dz * sy+dy+1) * sx≤sz * sy * sx:=Int.mul_le_mul_of_nonneg_right (by omega) (by omega)
 rw [Int.add_mul,Int.one_mul] at b4;have b5:sx * sy * sz=sz * sy * sx:=by rw [Int.mul_comm sx sy,Int.mul_comm (sy * sx) sz,Int.mul_assoc]
 omega
theorem zBV {b:Box} {i:Int} (h0:0≤i) (h1:i<zAE b):inB (atB b i) b=true∧ze b (atB b i)=i:=by
 have he:zS b=false:=by
  cases h:zS b with
  | false=>rfl
  | true=>rw [zN8 h] at h1;omega
 have h':=zT.1 he
 have hin:inB (atB b i) b=true:=by
  rw [zb];unfold atB;rw [if_pos ⟨h0,h1⟩];unfold zAE at h1;rw [zAA he] at h1 ⊢;simp only [Pt.sub] at h1 ⊢;generalize hsx:b.hi.x - b.lo.x=sx at *;generalize hsy:b.hi.y - b.lo.y=sy at *;generalize S9:b.hi.z - b.lo.z=sz at *;have p1:0<sx:=by omega
  have p2:0<sy:=by omega
  have m1:=Int.emod_nonneg i (show sx ≠ 0 by omega)
  have m2:=Int.emod_lt_of_pos i p1;have m3:=Int.emod_nonneg (i / sx) (show sy ≠ 0 by omega)
  have m4:=Int.emod_lt_of_pos (i / sx) p2;have d1:0≤i / sx:=Int.ediv_nonneg h0 (by omega)
  have d2:0≤i / sx / sy:=Int.ediv_nonneg d1 (by omega)
  have d3:i / sx / sy<sz:=by
   rw [Int.ediv_lt_iff_lt_mul p2,Int.ediv_lt_iff_lt_mul p1,Int.mul_comm sz sy,Int.mul_assoc,Int.mul_comm sz sx,←Int.mul_assoc,Int.mul_comm sy sx];exact h1
  omega
 refine ⟨hin,?_⟩;unfold ze;rw [if_pos hin];unfold atB;rw [if_pos ⟨h0,h1⟩,zAA he];simp only [Pt.sub];generalize hsx:b.hi.x - b.lo.x=sx;generalize hsy:b.hi.y - b.lo.y=sy;have e1:=Int.emod_add_mul_ediv (i / sx) sy;have e2:=Int.emod_add_mul_ediv i sx;rw [show b.lo.z+i / sx / sy - b.lo.z=i / sx / sy by omega,show b.lo.y+i / sx % sy - b.lo.y=i / sx % sy by omega,show b.lo.x+i % sx - b.lo.x=i % sx by omega]
 rw [Int.mul_comm (i / sx / sy) sy,Int.add_comm (sy * _),e1,Int.mul_comm (i / sx) sx];omega
theorem zBW {b:Box} (h:zS b=false):1≤zAE b:=by
 have h':=zT.1 h;unfold zAE;rw [zAA h];simp only [Pt.sub];have h1:1≤(b.hi.x - b.lo.x) * (b.hi.y - b.lo.y):=Int.mul_pos (by omega) (by omega)
 exact Int.mul_pos (by omega) (by omega)
namespace Oct
inductive Tr where
 | uni (c:Int)
 | brick (l:List Int)
 | node (d:Nat) (ch:Fin 8→Tr)
namespace Tr
open Classical in
noncomputable def mkInner (d:Nat) (ch:Fin 8→Tr):Tr:=if (∃ c,ch 0 = .uni c) ∧ ∀ i,ch i=ch 0 then ch 0 else .node d ch
def mkBrick (l:List Int):Tr:=if ∀ x∈l,x=l.headD 0 then .uni (l.headD 0) else .brick l
def octN (n:Nat) (p:Pt):Nat:=(p.x / 2 ^ (n+2) % 2+2 * (p.y / 2 ^ (n+2) % 2)+4 * (p.z / 2 ^ (n+2) % 2)).toNat
theorem octN_lt (n:Nat) (p:Pt):octN n p<8:=by unfold octN;omega
def oct (n:Nat) (p:Pt):Fin 8:=⟨octN n p,octN_lt n p⟩
def idx (p:Pt):Nat:=(p.x % 4+4 * (p.y % 4)+16 * (p.z % 4)).toNat
theorem idx_lt (p:Pt):idx p<64:=by unfold idx;omega
def cor (a:Pt) (n:Nat) (i:Nat):Pt:=⟨a.x+(i % 2:Nat) * 2 ^ (n+2),a.y+(i / 2 % 2:Nat) * 2 ^ (n+2),a.z+(i / 4:Nat) * 2 ^ (n+2)⟩
def cellAt (a:Pt) (k:Nat):Pt:=⟨a.x+(k % 4:Nat),a.y+(k / 4 % 4:Nat),a.z+(k / 16:Nat)⟩
def getT:Tr→Nat→Pt→Int
 | .uni c,_,_=>c
 | .brick l,_,p=>l.getD (idx p) 0
 | .node _ ch,n+1,p=>getT (ch (oct n p)) n p
 | .node _ _,0,_=>0
def cells:Tr→List Int
 | .uni c=>List.replicate 64 c
 | .brick l=>l
 | .node _ _=>[]
def kid (t:Tr) (i:Fin 8):Tr:=match t with
 | .node _ ch=>ch i
 | t=>t
noncomputable def setT:Nat→Tr→Pt→Int→Tr
 | 0,t,p,c=>mkBrick (t.cells.set (idx p) c)
 | n+1,t,p,c=>mkInner (n+3) fun i=>if i=oct n p then setT n (t.kid i) p c else t.kid i
noncomputable def can (f:Pt→Int):Nat→Pt→Tr
 | 0,a=>mkBrick ((List.range 64).map fun k=>f (cellAt a k))
 | n+1,a=>mkInner (n+3) fun i=>can f n (cor a n i.val)
def InC (n:Nat) (a p:Pt):Prop:=p.x / 2 ^ (n+2)=a.x / 2 ^ (n+2)∧p.y / 2 ^ (n+2)=a.y / 2 ^ (n+2)∧p.z / 2 ^ (n+2)=a.z / 2 ^ (n+2)
def Al (n:Nat) (a:Pt):Prop:=a.x % 2 ^ (n+2)=0∧a.y % 2 ^ (n+2)=0∧a.z % 2 ^ (n+2)=0
theorem zEX (a m:Int) (hm:0<m):a / (m * 2)=a / m / 2:=by rw [Int.ediv_ediv_of_nonneg (by omega)]
theorem zMm {a p m:Int} (hm:0<m) (ha:a % (m * 2)=0) (h:p / (m * 2)=a / (m * 2)):p / m=(a+p / m % 2 * m) / m∧(a+p / m % 2 * m) % m=0:=by
 rw [zEX _ _ hm,zEX _ _ hm] at h
 have h1:a % m=0:=by
  have:=Int.emod_emod_of_dvd a (⟨2,rfl⟩:m ∣ m * 2);rw [ha] at this;simpa using this.symm
 have h2:(a+p / m % 2 * m) / m=a / m+p / m % 2:=Int.add_mul_ediv_right _ _ (by omega)
 have h3:a / m % 2=0:=by
  have h4:a / m * m=a:=Int.ediv_mul_cancel (Int.dvd_of_emod_eq_zero h1);have h5:a / (m * 2) * (m * 2)=a:=Int.ediv_mul_cancel (Int.dvd_of_emod_eq_zero ha)
  have h6:a / m=a / (m * 2) * 2:=by
   have:a / m * m=(a / (m * 2) * 2) * m:=by rw [h4,Int.mul_assoc,Int.mul_comm 2 m,h5]
   exact Int.eq_of_mul_eq_mul_right (by omega) this
  omega
 refine ⟨by rw [h2];omega,?_⟩
 rw [Int.add_mul_emod_self_right];exact h1
theorem pow_succ2 (n:Nat):(2:Int) ^ (n+1+2)=2 ^ (n+2) * 2:=Int.pow_succ ..
theorem pow_pos2 (n:Nat):(0:Int)<2 ^ (n+2):=Int.pow_pos (by decide)
theorem zJA (n:Nat) (p:Pt):((octN n p % 2:Nat):Int)=p.x / 2 ^ (n+2) % 2∧((octN n p / 2 % 2:Nat):Int)=p.y / 2 ^ (n+2) % 2∧((octN n p / 4:Nat):Int)=p.z / 2 ^ (n+2) % 2:=by
 unfold octN;generalize p.x / 2 ^ (n+2)=a;generalize p.y / 2 ^ (n+2)=b;generalize p.z / 2 ^ (n+2)=c;omega
theorem inC_step {n:Nat} {a p:Pt} (ha:Al (n+1) a) (h:InC (n+1) a p):InC n (cor a n (oct n p).val) p:=by
 obtain ⟨h1,h2,h3⟩:=h;obtain ⟨a1,a2,a3⟩:=ha;rw [pow_succ2] at h1 h2 h3 a1 a2 a3;obtain ⟨o1,o2,o3⟩:=zJA n p;unfold InC cor oct;simp only [o1,o2,o3];exact ⟨(zMm (pow_pos2 n) a1 h1).1,(zMm (pow_pos2 n) a2 h2).1,(zMm (pow_pos2 n) a3 h3).1⟩
theorem al_cor {n:Nat} {a:Pt} (ha:Al (n+1) a) (i:Nat):Al n (cor a n i):=by
 obtain ⟨a1,a2,a3⟩:=ha
 have key : ∀ a b:Int,a % 2 ^ (n+1+2)=0→(a+b * 2 ^ (n+2)) % 2 ^ (n+2)=0:=by
  intro a b h;rw [pow_succ2] at h;rw [Int.add_mul_emod_self_right];have:=Int.emod_emod_of_dvd a (⟨2,rfl⟩:(2:Int) ^ (n+2) ∣ 2 ^ (n+2) * 2);rw [h] at this;simpa using this.symm
 exact ⟨key _ _ a1,key _ _ a2,key _ _ a3⟩
theorem inC_other {n:Nat} {a p:Pt} (ha:Al (n+1) a) {i:Fin 8} (h:InC n (cor a n i.val) p):i=oct n p∧InC (n+1) a p:=by
 obtain ⟨h1,h2,h3⟩:=h;obtain ⟨a1,a2,a3⟩:=ha;rw [pow_succ2] at a1 a2 a3;unfold cor at h1 h2 h3;simp only [] at h1 h2 h3
 have key : ∀ (a p b m:Int),0<m→a % (m * 2)=0→(b=0∨b=1)→p / m=(a+b * m) / m→p / m % 2=b∧p / (m * 2)=a / (m * 2):=by
  intro a p b m hm ha hb h;have h5:a / (m * 2) * (m * 2)=a:=Int.ediv_mul_cancel (Int.dvd_of_emod_eq_zero ha);have h6:a=(a / (m * 2) * 2) * m:=by rw [Int.mul_assoc,Int.mul_comm 2 m,h5]
  rw [Int.add_mul_ediv_right _ _ (by omega)] at h
  have h7:a / m=a / (m * 2) * 2:=by
   conv=>lhs;rw [h6]
   exact Int.mul_ediv_cancel _ (by omega)
  rw [zEX p m hm];omega
 have hi:=i.isLt;obtain ⟨x1,x2⟩:=key _ _ _ _ (pow_pos2 n) a1 (by omega) h1
 obtain ⟨y1,y2⟩:=key _ _ _ _ (pow_pos2 n) a2 (by omega) h2
 obtain ⟨z1,z2⟩:=key _ _ _ _ (pow_pos2 n) a3 (by omega) h3
 refine ⟨Fin.ext ?_,?_⟩
 · obtain ⟨o1,o2,o3⟩:=zJA n p
   show i.val=octN n p
   have:=octN_lt n p;omega
 · unfold InC;rw [pow_succ2];exact ⟨x2,y2,z2⟩
theorem getD_el {l:List Int} {i:Nat} (h:i<l.length):l.getD i 0=l[i]:=by simp [List.getD,h]
theorem zIa {l:List Int} (hl:l.length=64) (n:Nat) (p:Pt):getT (mkBrick l) n p=l.getD (idx p) 0:=by
 unfold mkBrick;split
 · rename_i h;have hi:=idx_lt p;rw [getD_el (by omega)]
   exact (h _ (List.getElem_mem _)).symm
 · rfl
theorem cells_mkBrick {l:List Int} (hl:l.length=64):cells (mkBrick l)=l:=by
 unfold mkBrick;split
 · rename_i h;apply List.ext_getElem
   · simp [cells,hl]
   · intro i h1 h2;simp only [cells,List.getElem_replicate];exact (h _ (List.getElem_mem h2)).symm
 · rfl
theorem mkInner_kid (d:Nat) (ch:Fin 8→Tr) (i:Fin 8):kid (mkInner d ch) i=ch i:=by
 unfold mkInner;split
 · rename_i h;obtain ⟨⟨c,hc⟩,h⟩:=h;rw [h i];rw [hc];rfl
 · rfl
theorem zIc (d n:Nat) (ch:Fin 8→Tr) (p:Pt):getT (mkInner d ch) (n+1) p=getT (ch (oct n p)) n p:=by
 unfold mkInner;split
 · rename_i h;obtain ⟨⟨c,hc⟩,h⟩:=h;rw [h (oct n p),hc];rfl
 · rfl
theorem can_cells_length (f:Pt→Int) (a:Pt):((List.range 64).map fun k=>f (cellAt a k)).length=64:=by simp
theorem inC_zero {a p:Pt} (ha:Al 0 a) (h:InC 0 a p):cellAt a (idx p)=p:=by
 obtain ⟨h1,h2,h3⟩:=h;obtain ⟨a1,a2,a3⟩:=ha;have e:(2:Int) ^ (0+2)=4:=by decide
 rw [e] at h1 h2 h3 a1 a2 a3;unfold cellAt idx;cases p;simp only [Pt.mk.injEq] at *;omega
theorem inC_cell {a p:Pt} (ha:Al 0 a) {k:Nat} (hk:k<64) (h:cellAt a k=p):InC 0 a p∧idx p=k:=by
 subst h;obtain ⟨a1,a2,a3⟩:=ha;have e:(2:Int) ^ (0+2)=4:=by decide
 rw [e] at a1 a2 a3;unfold InC idx cellAt;rw [e];simp only [];omega
theorem get_can (f:Pt→Int) : ∀ (n:Nat) (a p:Pt),Al n a→InC n a p→getT (can f n a) n p=f p
 | 0, a, p, ha, h => by
   unfold can;rw [zIa (can_cells_length f a)];have hi:=idx_lt p;rw [getD_el (by simpa using hi)]
   simp only [List.getElem_map,List.getElem_range];rw [inC_zero ha h]
 | n + 1, a, p, ha, h => by
   unfold can;rw [zIc];exact get_can f n _ p (al_cor ha _) (inC_step ha h)
theorem can_congr {f f':Pt→Int} : ∀ (n:Nat) (a:Pt),Al n a→(∀ p,InC n a p→f p=f' p)→can f n a=can f' n a
 | 0, a, ha, h => by
   unfold can
   congr 1
   apply List.map_congr_left;intro k hk;exact h _ (inC_cell ha (List.mem_range.1 hk) rfl).1
 | n + 1, a, ha, h => by
   unfold can
   congr 1
   funext i
   exact can_congr n _ (al_cor ha _) fun p hp=>h p (inC_other ha hp).2
def upd (f:Pt→Int) (p:Pt) (c:Int):Pt→Int:=fun q=>if q=p then c else f q
theorem set_can (f:Pt→Int) (c:Int) : ∀ (n:Nat) (a p:Pt),Al n a→InC n a p→setT n (can f n a) p c=can (upd f p c) n a
 | 0, a, p, ha, h => by
   unfold setT can;rw [cells_mkBrick (can_cells_length f a)]
   congr 1
   apply List.ext_getElem
   · simp
   · intro k h1 h2;have hk:k<64:=by simpa using h2
     rw [List.getElem_set];simp only [List.getElem_map,List.getElem_range];unfold upd;split
     · rename_i e;rw [if_pos (by rw [←e];exact inC_zero ha h)]
     · rename_i e;rw [if_neg (fun e'=>e (inC_cell ha hk e').2)]
 | n + 1, a, p, ha, h => by
   unfold setT
   conv=>rhs;unfold can
   congr 1
   funext i
   conv=>lhs;unfold can
   rw [mkInner_kid];split
   · rename_i e;subst e;exact set_can f c n _ p (al_cor ha _) (inC_step ha h)
   · rename_i e;apply can_congr n _ (al_cor ha _);intro q hq;unfold upd;rw [if_neg];rintro rfl;exact e (inC_other ha hq).1
open Classical in
noncomputable def add:Tr→List Tr→List Tr
 | .node d ch,ts=>if .node d ch∈ts then ts else (List.finRange 8).foldl (fun a i=>add (ch i) a) ts++[.node d ch]
 | .uni c,ts=>if .uni c∈ts then ts else ts++[.uni c]
 | .brick l,ts=>if .brick l∈ts then ts else ts++[.brick l]
noncomputable def addK (ch:Fin 8→Tr) (k:Nat) (ts:List Tr):List Tr:=((List.finRange 8).take k).foldl (fun a i=>add (ch i) a) ts
theorem addK_zero (ch:Fin 8→Tr) (ts:List Tr):addK ch 0 ts=ts:=rfl
theorem addK_succ (ch:Fin 8→Tr) {k:Nat} (hk:k<8) (ts:List Tr):addK ch (k+1) ts=add (ch ⟨k,hk⟩) (addK ch k ts):=by
 unfold addK;rw [List.take_succ_eq_append_getElem (by simpa using hk),List.foldl_append]
 simp
theorem zAm (ch:Fin 8→Tr) (ts:List Tr):addK ch 8 ts=(List.finRange 8).foldl (fun a i=>add (ch i) a) ts:=by
 unfold addK;rw [List.take_of_length_le (by simp)]
open Classical in
theorem add_node (d:Nat) (ch:Fin 8→Tr) (ts:List Tr):add (.node d ch) ts=if .node d ch∈ts then ts else addK ch 8 ts++[.node d ch]:=by
 rw [zAm,add]
open Classical in
noncomputable def ins (t:Tr) (ts:List Tr):List Tr:=if t∈ts then ts else ts++[t]
theorem add_uni (c:Int) (ts:List Tr):add (.uni c) ts=ins (.uni c) ts:=by rw [add,ins]
theorem add_brick (l:List Int) (ts:List Tr):add (.brick l) ts=ins (.brick l) ts:=by rw [add,ins]
def Closed (ts:List Tr):Prop:=ts.Nodup ∧ ∀ d ch,Tr.node d ch∈ts → ∀ i,ch i∈ts
theorem Closed.nil:Closed []:=⟨by simp,fun d ch h=>by simp at h⟩
theorem addK_ind {P:List Tr→Prop} {ch:Fin 8→Tr} (ih : ∀ i ts,P ts→P (add (ch i) ts)) : ∀ k,k≤8 → ∀ ts,P ts→P (addK ch k ts)
 | 0,_,ts,h=>by rw [addK_zero];exact h
 | k+1,hk,ts,h=>by rw [addK_succ ch (by omega)];exact ih _ _ (addK_ind ih k (by omega) ts h)
theorem ins_of_mem {t:Tr} {ts:List Tr} (h:t∈ts):ins t ts=ts:=if_pos h
theorem ins_of_not {t:Tr} {ts:List Tr} (h:t ∉ ts):ins t ts=ts++[t]:=if_neg h
theorem ins_prefix (t:Tr) (ts:List Tr):ts <+: ins t ts:=by
 by_cases h:t∈ts
 · rw [ins_of_mem h];exact List.prefix_refl _
 · rw [ins_of_not h];exact List.prefix_append _ _
theorem zIT (t:Tr) (ts:List Tr):t∈ins t ts:=by
 by_cases h:t∈ts
 · rw [ins_of_mem h];exact h
 · rw [ins_of_not h];simp
theorem add_prefix : ∀ (t:Tr) (ts:List Tr),ts <+: add t ts:=by
 intro t
 induction t with
 | uni c=>intro ts;rw [add_uni];exact ins_prefix _ _
 | brick l=>intro ts;rw [add_brick];exact ins_prefix _ _
 | node d ch ih =>
   intro ts;rw [add_node];split
   · exact List.prefix_refl _
   · exact (addK_ind (P:=fun a=>ts <+: a) (fun i a h=>h.trans (ih i a)) 8 nlr ts (List.prefix_refl _)).trans (List.prefix_append _ _)
theorem addK_prefix (ch:Fin 8→Tr) (k:Nat) (hk:k≤8) (ts:List Tr):ts <+: addK ch k ts :=
 addK_ind (P:=fun a=>ts <+: a) (fun _i a h=>h.trans (add_prefix _ a)) k hk ts (List.prefix_refl _)
theorem mem_add (t:Tr) (ts:List Tr):t∈add t ts:=by
 cases t with
 | uni c=>rw [add_uni];exact zIT _ _
 | brick l=>rw [add_brick];exact zIT _ _
 | node d ch =>
   rw [add_node];split
   · assumption
   · simp
theorem add_same : ∀ (t:Tr) (ts:List Tr),t∈ts→add t ts=ts:=by
 intro t ts h;cases t with
 | uni c=>rw [add_uni,ins_of_mem h]
 | brick l=>rw [add_brick,ins_of_mem h]
 | node d ch=>rw [add_node,if_pos h]
theorem addK_mem (ch:Fin 8→Tr) (ts:List Tr) : ∀ k,k≤8 → ∀ i:Fin 8,i.val<k→ch i∈addK ch k ts
 | 0,_,i,h=>by omega
 | k + 1, hk, i, h => by
   rw [addK_succ ch (by omega)]
   by_cases e:i.val=k
   · rw [show i=⟨k,by omega⟩ from Fin.ext e]
     exact mem_add _ _
   · exact (add_prefix _ _).subset (addK_mem ch ts k (by omega) i (by omega))
def sz:Tr→Nat
 | .uni _=>1
 | .brick _=>1
 | .node _ ch=>1+(List.ofFn fun i=>sz (ch i)).sum
theorem le_sum {l:List Nat} {x:Nat} (h:x∈l):x≤l.sum:=by
 induction l with
 | nil=>simp at h
 | cons y l ih =>
   simp only [List.sum_cons];rcases List.mem_cons.1 h with rfl | h
   · omega
   · have:=ih h;omega
theorem sz_kid (d:Nat) (ch:Fin 8→Tr) (i:Fin 8):sz (ch i)<sz (.node d ch):=by
 have:sz (ch i)≤(List.ofFn fun i=>sz (ch i)).sum:=le_sum (List.mem_ofFn.2 ⟨i,rfl⟩);simp only [sz];omega
theorem of_mem_ins {x t:Tr} {ts:List Tr} (h:x∈ins t ts):x∈ts∨x=t:=by
 by_cases h':t∈ts
 · rw [ins_of_mem h'] at h;exact .inl h
 · rw [ins_of_not h'] at h;simpa using h
theorem zJE : ∀ (t:Tr) (ts:List Tr) (x:Tr),x∈add t ts→x∈ts∨x=t∨sz x<sz t:=by
 intro t
 induction t with
 | uni c=>intro ts x h;rw [add_uni] at h;rcases of_mem_ins h with h | h;exact .inl h;exact .inr (.inl h)
 | brick l=>intro ts x h;rw [add_brick] at h;rcases of_mem_ins h with h | h;exact .inl h;exact .inr (.inl h)
 | node d ch ih =>
   intro ts x h;rw [add_node] at h;split at h
   · exact .inl h
   · rcases List.mem_append.1 h with h | h
     · have:=addK_ind (P:=fun a => ∀ x∈a,x∈ts∨sz x<sz (.node d ch)) (fun i a ha x hx=>by
        rcases ih i a x hx with h | rfl | h
        · exact ha x h
        · exact .inr (sz_kid d ch i)
        · exact .inr (Nat.lt_trans h (sz_kid d ch i))) 8 nlr ts (fun x hx=>.inl hx) x h
       rcases this with h | h
       · exact .inl h
       · exact .inr (.inr h)
     · simp at h;exact .inr (.inl h)
theorem zI5 {d:Nat} {ch:Fin 8→Tr} {ts:List Tr} (h : .node d ch ∉ ts) (k:Nat) (hk:k≤8) : .node d ch ∉ addK ch k ts:=by
 have:=addK_ind (P:=fun a=>Tr.node d ch ∉ a) (ch:=ch) (fun i a ha hx=>by
  rcases zJE _ _ _ hx with h | h | h
  · exact ha h
  · have:=sz_kid d ch i;rw [←h] at this;omega
  · have:=sz_kid d ch i;omega) k hk ts h
 exact this
theorem Closed.ins {t:Tr} {ts:List Tr} (h:Closed ts) (hk : ∀ d ch,t = .node d ch → ∀ i,ch i∈ts):Closed (ins t ts):=by
 by_cases hm:t∈ts
 · rw [ins_of_mem hm];exact h
 · rw [ins_of_not hm];refine ⟨?_,fun d ch hc i=>?_⟩
   · rw [List.nodup_append];exact ⟨h.1,by simp,fun a ha b hb=>by simp at hb;subst hb;rintro rfl;exact hm ha⟩
   · rcases List.mem_append.1 hc with hc | hc
     · exact List.mem_append.2 (.inl (h.2 d ch hc i))
     · simp at hc;exact List.mem_append.2 (.inl (hk d ch hc.symm i))
theorem node_add {d:Nat} {ch:Fin 8→Tr} {ts:List Tr} (h:Closed ts):add (.node d ch) ts=Tr.ins (.node d ch) (addK ch 8 ts):=by
 rw [add_node];split
 · rename_i hm;have:addK ch 8 ts=ts:=addK_ind (P:=fun a=>a=ts) (fun i a ha=>by subst ha;exact add_same _ _ (h.2 d ch hm i)) 8 nlr ts rfl
   rw [this,ins_of_mem hm]
 · rename_i hm;rw [ins_of_not (zI5 hm 8 (Nat.le_refl _))]
theorem Closed.add : ∀ (t:Tr) {ts:List Tr},Closed ts→Closed (add t ts):=by
 intro t
 induction t with
 | uni c=>intro ts h;rw [add_uni];exact h.ins (fun d ch e=>by cases e)
 | brick l=>intro ts h;rw [add_brick];exact h.ins (fun d ch e=>by cases e)
 | node d ch ih =>
   intro ts h;rw [node_add h]
   exact (addK_ind (P:=Closed) (fun i a ha=>ih i ha) 8 nlr ts h).ins (fun d' ch' e i=>by
    injection e with e1 e2;subst e2;exact addK_mem _ ts 8 nlr i i.isLt)
theorem Closed.addK {ch:Fin 8→Tr} {ts:List Tr} (h:Closed ts) (k:Nat) (hk:k≤8):Closed (addK ch k ts):=addK_ind (P:=Closed) (fun _i _a ha=>Closed.add _ ha) k hk ts h
open Classical in
theorem inner_add {d:Nat} {ch:Fin 8→Tr} {ts:List Tr} (h:Closed ts) :
 add (mkInner d ch) ts=if mkInner d ch=ch 0∧(∃ c,ch 0 = .uni c) then addK ch 8 ts else Tr.ins (.node d ch) (addK ch 8 ts):=by
 unfold mkInner;split
 · rename_i hc;obtain ⟨⟨c,hc⟩,Jd⟩:=hc;rw [if_pos ⟨rfl,c,hc⟩]
   have : ∀ k,k≤7→Tr.addK ch (k+1) ts=Tr.add (ch 0) ts:=by
    intro k
    induction k with
    | zero=>intro _;rw [addK_succ ch (by omega),addK_zero];rfl
    | succ k ih =>
      intro hk;rw [addK_succ ch (by omega),ih (by omega),Jd ⟨k+1,by omega⟩]
      exact add_same _ _ (mem_add _ _)
   exact (this 7 nlr).symm
 · rename_i hc;rw [if_neg,node_add h];rintro ⟨e1,c,e2⟩;rw [e2] at e1;cases e1
def Fits (UA:Int) (ts ts':List Tr):Prop:=ts'=ts∨(ts'.length:Int)≤UA
theorem fits_trans {UA:Int} {a b c:List Tr} (h1:a <+: b) (h2:b <+: c) (h:Fits UA a b) (h':Fits UA b c):Fits UA a c:=by
 rcases h' with rfl | h'
 · exact h
 · exact .inr h'
theorem not_fits_mono {UA:Int} {a b c:List Tr} (h1:a <+: b) (h2:b <+: c) (h : ¬Fits UA a b) : ¬Fits UA a c:=by
 intro h';apply h;rcases h' with rfl | h'
 · exact .inl (List.IsPrefix.eq_of_length_le h1 h2.length_le).symm
 · have:=h2.length_le;exact .inr (by omega)
theorem not_fits_later {UA:Int} {a b c:List Tr} (h1:a <+: b) (h2:b <+: c) (h : ¬Fits UA b c) : ¬Fits UA a c:=by
 intro h';apply h;rcases h' with rfl | h'
 · exact .inl (List.IsPrefix.eq_of_length_le h2 h1.length_le).symm
 · exact .inr h'
theorem addK_one {ch:Fin 8→Tr} {ts:List Tr} (j:Fin 8) (h : ∀ i,i ≠ j→ch i∈ts):addK ch 8 ts=Tr.add (ch j) ts:=by
 have key : ∀ k,k≤8→addK ch k ts=if j.val<k then Tr.add (ch j) ts else ts:=by
  intro k
  induction k with
  | zero=>intro _;rw [addK_zero,if_neg (by omega)]
  | succ k ih =>
    intro hk;rw [addK_succ ch (by omega),ih (by omega)]
    by_cases e:j.val=k
    · subst e;rw [if_neg (by omega),if_pos (by omega)]
    · have Ph:(⟨k,by omega⟩:Fin 8) ≠ j:=fun e'=>e (by rw [←e'])
      by_cases hlt:j.val<k
      · rw [if_pos hlt,if_pos (by omega)]
        exact add_same _ _ ((add_prefix _ _).subset (h _ Ph))
      · rw [if_neg hlt,if_neg (by omega)]
        exact add_same _ _ (h _ Ph)
 rw [key 8 (Nat.le_refl _),if_pos j.isLt]
def enc:Tr→List Int
 | .uni c=>[117,c]
 | .brick l=>98::l
 | .node d ch=>110::(d:Int)::(List.ofFn fun i=>enc (ch i)).flatten
def WF:Tr→Prop
 | .uni c=>0≤c∧c≤255
 | .brick l=>l.length=64 ∧ ∀ x∈l,0≤x∧x≤255
 | .node d ch=>d≤255 ∧ ∀ i,WF (ch i)
theorem zFa {a b:Fin 8→Tr} : ∀ (n k:Nat) (_hn:n+k=8),(∀ i,∀ t' r r',enc (a i)++r=enc t'++r'→WF t'→a i=t'∧r=r')→(∀ i,WF (b i)) →
 ∀ r r',((List.ofFn fun i=>enc (a i)).drop k).flatten++r=((List.ofFn fun i=>enc (b i)).drop k).flatten++r'→(∀ i:Fin 8,k≤i.val→a i=b i)∧r=r'
 | 0, k, hn, _, _, r, r', h => by
   rw [List.drop_eq_nil_of_le (by simp;omega),List.drop_eq_nil_of_le (by simp;omega)] at h
   exact ⟨fun i hi=>by omega,by simpa using h⟩
 | n + 1, k, hn, ha, hb, r, r', h => by
   have hk:k<8:=by omega
   rw [List.drop_eq_getElem_cons (l:=List.ofFn fun i=>enc (a i)) (i:=k) (by simpa using hk),List.drop_eq_getElem_cons (l:=List.ofFn fun i=>enc (b i)) (i:=k) (by simpa using hk)] at h
   simp only [List.getElem_ofFn,List.flatten_cons,List.append_assoc] at h;obtain ⟨h1,h2⟩:=ha ⟨k,hk⟩ _ _ _ h (hb ⟨k,hk⟩);obtain ⟨h3,h4⟩:=zFa n (k+1) (by omega) ha hb r r' h2
   refine ⟨fun i hi=>?_,h4⟩;by_cases e:k=i.val
   · obtain rfl:i=⟨k,hk⟩:=Fin.ext e.symm;exact h1
   · exact h3 i (by omega)
theorem zEm : ∀ (t t':Tr) (r r':List Int),WF t→WF t'→enc t++r=enc t'++r'→t=t'∧r=r':=by
 intro t
 induction t with
 | uni c =>
   intro t' r r' h h' e;cases t' with
   | uni c'=>simp [enc] at e;simp [e]
   | brick l=>simp [enc] at e
   | node d ch=>simp [enc] at e
 | brick l =>
   intro t' r r' h h' e;cases t' with
   | uni c'=>simp [enc] at e
   | brick l' =>
     simp [enc] at e;have:=List.append_inj e (by rw [h.1,h'.1])
     simp [this]
   | node d ch=>simp [enc] at e
 | node d ch ih =>
   intro t' r r' h h' e;cases t' with
   | uni c'=>simp [enc] at e
   | brick l'=>simp [enc] at e
   | node d' ch' =>
     simp only [enc,List.cons_append,List.cons.injEq,true_and] at e;obtain ⟨e1,e2⟩:=e;obtain ⟨h1,h2⟩:=zFa 8 0 rfl (fun i t' r r' e hw=>ih i t' r r' (h.2 i) hw e) h'.2 r r' (by simpa using e2)
     obtain rfl:d=d':=by omega
     obtain rfl:ch=ch':=funext fun i=>h1 i (Nat.zero_le _);exact ⟨rfl,h2⟩
theorem enc_eq {t t':Tr} (h:WF t) (h':WF t'):enc t=enc t' ↔ t=t' :=
 ⟨fun e=>(zEm t t' [] [] h h' (by simpa using e)).1,fun e=>by rw [e]⟩
end Tr
end Oct
end
section
open Go.Sort Go.RowKit
def zBa (md:Region.Mode) (l:List Oper) (n:Nat):Bool :=
 (List.range n).all fun j=>match l[j]? with
  | some o=>(o.after.all fun e => !Region.binds md e || decide (e.on<j)) && (match o.guard with | some g=>decide (g.1<j) | none=>true)
  | none=>false
def zNG (md:Region.Mode) (l:List Oper) (n:Nat):Bool :=
 ((List.range n).all fun i=>Region.waitsFor md l.toArray n i) && (List.range l.length).all fun t=>decide (t≤n) || Region.waitsFor md l.toArray t (t - 1)
def zGF (l:List Oper) (n:Nat):Bool :=
 decide (n<l.length) && zBa .any l n && zNG .any l n && Region.lexB .any (l.take n).toArray && Region.seqB .any l.toArray (l.length - n) n (Array.replicate n true++Array.replicate (l.length - n) false)
section
variable {P:Program} {md:Region.Mode} {l:List Oper} {n:Nat} {C:World→Prop}
theorem zNI {j:Nat} (hj:j<n):(l.take n).toArray[j]? = l.toArray[j]? := by simp [hj]
theorem zBQ {s:Array Bool} (hs:s.size=n) {g j:Nat} (hj:j<n) (d:Bool):(s++Array.replicate g false).getD j d=s.getD j d:=by
 have h1:j<s.size:=by omega
 simp [Array.getD_eq_getD_getElem?,Array.getElem?_append,h1]
theorem zBS {s:Array Bool} (hs:s.size=n) {g j:Nat} (hj:n≤j):(s++Array.replicate g false).getD j false=false:=by
 have h1 : ¬j<s.size:=by omega
 simp only [Array.getD_eq_getD_getElem?,Array.getElem?_append,h1,if_false,Array.getElem?_replicate];split <;> rfl
theorem zBb {j:Nat} {o:Oper} (hb:zBa md l n=true) (hj:j<n) (ho:l.toArray[j]? = some o) :
 (∀ e∈o.after,Region.binds md e=true→e.on<j) ∧ ∀ g,o.guard=some g→g.1<j:=by
 have h:=List.all_eq_true.1 hb j (List.mem_range.2 hj);have Q4:l[j]? = some o:=by simpa using ho
 simp only [Q4,Bool.and_eq_true,Array.all_eq_true'] at h;refine ⟨fun e he KU=>?_,fun g hg=>?_⟩
 · have:=h.1 e he;simpa [KU] using this
 · have:=h.2;rw [hg] at this;simpa using this
theorem zKm {s:Array Bool} (hs:s.size=n) {g i:Nat} (hi:i<n) (hb:zBa md l n=true) (h:i∈Region.ready md l.toArray (s++Array.replicate g false)):i∈Region.ready md (l.take n).toArray s:=by
 obtain ⟨h1,o,ho,h2⟩:=mem_ready.1 h;rw [zBQ hs hi] at h1;refine mem_ready.2 ⟨h1,o,by rw [zNI hi];exact ho,fun e he KU=>?_⟩
 have h3:=(zBb hb hi ho).1 e he KU;have:=h2 e he KU;rwa [zBQ hs (by omega)] at this
theorem zKn {s:Array Bool} (hs:s.size=n) {g i k:Nat} (hk:k<n) (SO:s.getD k false=false) (ht:zNG md l n=true) (h:i∈Region.ready md l.toArray (s++Array.replicate g false)):i<n:=by
 obtain ⟨h1,o,ho,h2⟩:=mem_ready.1 h;rcases Nat.lt_or_ge i n with hlt | hge
 · exact hlt
 · exfalso;have Nr:i<l.length:=by have:=(Array.getElem?_eq_some_iff.1 ho).1;simpa using this
   simp only [zNG,Bool.and_eq_true] at ht;by_cases hin:i=n
   · subst hin;have h3:=List.all_eq_true.1 ht.1 k (List.mem_range.2 hk);obtain ⟨o',Q4,e,he,KU,QK⟩:=Region.waitsFor_spec h3;obtain rfl:o'=o:=osi (Q4.symm.trans ho);have:=h2 e he KU;rw [QK,zBQ hs hk,SO] at this;cases this
   · have h3:=List.all_eq_true.1 ht.2 i (List.mem_range.2 Nr);simp only [Bool.or_eq_true,decide_eq_true_eq] at h3;rcases h3 with h3 | h3
     · omega
     · obtain ⟨o',Q4,e,he,KU,QK⟩:=Region.waitsFor_spec h3;obtain rfl:o'=o:=osi (Q4.symm.trans ho);have:=h2 e he KU;rw [QK,zBS hs (by omega)] at this
       cases this
theorem zKp {s:Array Bool} (hs:s.size=n) (hn:n≤l.length) {g:Nat} (hb:zBa md l n=true) : ∀ (d k:Nat),k<d→k<n→s.getD k false=false → ∃ i,i∈Region.ready md l.toArray (s++Array.replicate g false)
 | 0,_,h,_,_=>by omega
 | d + 1, k, hd, hk, SO => by
   obtain ⟨o,ho⟩ : ∃ o,l.toArray[k]? = some o:=⟨_,Array.getElem?_eq_getElem (by simp;omega)⟩
   by_cases Jd : ∀ e∈o.after,Region.binds md e=true→s.getD e.on false=true
   · refine ⟨k,mem_ready.2 ⟨?_,o,ho,fun e he KU=>?_⟩⟩
     · rw [zBQ hs hk];exact getD_in (by omega) SO
     · have:=(zBb hb hk ho).1 e he KU;rw [zBQ hs (by omega)];exact Jd e he KU
   · have ⟨e,he,KU,Ph⟩ : ∃ e,e∈o.after∧Region.binds md e=true∧s.getD e.on false=false:=by
      refine Classical.byContradiction fun Px=>Jd fun e he KU=>?_;cases hx:s.getD e.on false with
      | true=>rfl
      | false=>exact absurd ⟨e,he,KU,hx⟩ Px
     have:=(zBb hb hk ho).1 e he KU;exact zKp hs hn hb d e.on (by omega) (by omega) Ph
theorem zOC {j:Nat} {o:Oper} {tmps:Array Value} (hb:zBa md l n=true) (hj:j<n) (ho:l.toArray[j]? = some o) :
 Region.wanted o (yielded (l.take n).toArray tmps)=Region.wanted o (yielded l.toArray tmps):=by
 have hg:=(zBb hb hj ho).2;unfold Region.wanted;cases NF:o.guard with
 | none=>rfl
 | some g =>
   have:=hg g NF;have hy:yielded (l.take n).toArray tmps g.1=yielded l.toArray tmps g.1:=by unfold yielded;rw [zNI (by omega)]
   obtain ⟨g1,g2⟩:=g;simp only at hy ⊢;rw [hy]
def unl (s:Array Bool):Nat:=s.toList.count false
theorem zNz {s:Array Bool} {i:Nat} (hi:i<s.size) (h:s.getD i true=false):unl (s.setIfInBounds i true)+1=unl s:=by
 unfold unl;have hx:s[i]=false:=by simpa [hi] using h
 have PQ:false∈s.toList:=by rw [←hx];exact Array.getElem_mem_toList hi
 have Qn:=List.count_pos_iff.2 PQ;rw [Array.toList_setIfInBounds,List.count_set (by simpa using hi),Array.getElem_toList,hx]
 simp only [beq_self_eq_true,if_true];rw [if_neg (by decide)]
 omega
theorem zN0 {s:Array Bool} (h:unl s=0):s=Array.replicate s.size true:=by
 apply Array.ext
 · simp
 · intro i h1 h2;simp only [Array.getElem_replicate];cases hx:s[i] with
   | true=>rfl
   | false =>
     have:false∈s.toList:=by rw [←hx];exact Array.getElem_mem_toList h1
     have:=List.count_pos_iff.2 this;unfold unl at h;omega
theorem zNy {s:Array Bool} (h:0<unl s) : ∃ k,k<s.size∧s.getD k false=false:=by
 have:=List.count_pos_iff.1 h;obtain ⟨k,hk,hx⟩:=List.getElem_of_mem this;refine ⟨k,by simpa using hk,?_⟩
 have hk':k<s.size:=by simpa using hk
 have:s[k]=false:=by simpa using hx
 simp [hk',this]
theorem zBR {s:Array Bool} {g i:Nat} (hi:i<s.size):(s++Array.replicate g false).setIfInBounds i true=s.setIfInBounds i true++Array.replicate g false:=by
 apply Array.ext_getElem?;intro j;simp only [Array.getElem?_setIfInBounds,Array.getElem?_append,Array.size_setIfInBounds,Array.size_append,Array.size_replicate];by_cases e:i=j
 · subst e;simp [hi];omega
 · simp [e]
theorem zOP {Qa:Act→Prop} {Q:Exit→Act→World→Prop} {g:Nat} (hn:n≤l.length) (hb:zBa md l n=true) (ht:zNG md l n=true)
 (MY : ∀ a w,C w→Qa a→wpAny P md l.toArray Q g (Array.replicate n true++Array.replicate g false) a w) :
 ∀ (f : Nat) (s : Array Bool) (a : Act) (w : World), s.size = n → unl s = f → C w → wpAnyQ P md (l.take n).toArray C Qa f s a →
   wpAny P md l.toArray Q (f+g) (s++Array.replicate g false) a w
 | 0, s, a, w, hs, hu, hw, h => by
   rw [Nat.zero_add,zN0 hu,hs];exact MY a w hw h.2
 | f + 1, s, a, w, hs, hu, hw, h => by
   obtain ⟨k,hk,SO⟩:=zNy (s:=s) (by omega)
   rw [show f+1+g=(f+g)+1 by omega]
   refine ⟨fun h0=>?_,fun i hi=>?_⟩
   · obtain ⟨i,hi⟩:=zKp (g:=g) hs hn hb (k+1) k (by omega) (by omega) SO
     rw [h0] at hi;cases hi
   · have hin:=zKn hs (by omega:k<n) SO ht hi
     have hr:=zKm hs hin hb hi;have hq:=h.2 i hr;obtain ⟨Ny,o,ho,_⟩:=mem_ready.1 hr;have Q4:l.toArray[i]? = some o:=by rw [←zNI hin];exact ho
     have step : ∀ a' w',C w'→wpAnyQ P md (l.take n).toArray C Qa f (s.setIfInBounds i true) a'→wpAny P md l.toArray Q (f+g) ((s++Array.replicate g false).setIfInBounds i true) a' w':=by
      intro a' w' Sp h';rw [zBR (by omega)]
      refine zOP hn hb ht MY f _ a' w' (by simpa using hs) ?_ Sp h'
      have:=zNz (s:=s) (by omega) Ny
      omega
     have Qx:qOp P l.toArray C i (wpAnyQ P md (l.take n).toArray C Qa f (s.setIfInBounds i true)) a:=by
      unfold qOp at hq ⊢;simp only [ho] at hq;simp only [Q4];rwa [zOC hb hin Q4] at hq
     exact wpOp_of_qOp hw step Qx
theorem zOf {id:Nat} {Q:Exit→Act→World→Prop} {a:Act} {w:World} (n:Nat) (hm:P.follows .mixedOrders=true) (hB:zGF l n=true) (hC:C { w with drawn:=w.drawn+1 })
 (h:wpQuiet P (l.take n).toArray C (fun a' => ∀ w',C w'→wpList P l.toArray Q (l.drop n) a' w') (l.take n) a):(Code.region id l.toArray true).wp P Q a w:=by
 simp only [zGF,Bool.and_eq_true,decide_eq_true_eq] at hB;obtain ⟨⟨⟨⟨hn,hb⟩,ht⟩,On⟩,Rh⟩:=hB;simp only [Region.lexB,Bool.and_eq_true] at On;refine wp_region_any hm ?_;have S9:(l.take n).toArray.size=n:=by simp;omega
 have hq:=wpAnyQ_lex (P:=P) (C:=C) (md:=.any) On.1 (l.take n) 0 (Array.replicate n false) a (by simp) (by have:=On.2;rw [S9] at this;simpa [show (l.take n).length=n by simp;omega] using this) h
 rw [show (l.take n).length=n by simp;omega] at hq
 have:=zOP (g:=l.length - n) (Q:=Q) (md:=.any) (by omega) hb ht (fun a w hw hQa=>by
  have:=wpAny_of_seq (P:=P) (md:=.any) (ops:=l.toArray) (Q':=Q) (l.drop n) n (Array.replicate n true++Array.replicate (l.length - n) false) a w (fun j=>by simp [List.getElem?_drop]) (by simpa using Rh) (hQa w hw)
  simpa using this) n (Array.replicate n false) a _ (by simp) (by simp [unl]) hC hq
 have e:Array.replicate n false++Array.replicate (l.length - n) false=Array.replicate l.toArray.size false:=by
  rw [Array.replicate_append_replicate];congr 1;simp;omega
 rw [e,show n+(l.length - n)=l.toArray.size by simp;omega] at this
 exact this
theorem zAK {id:Nat} {Q:Exit→Act→World→Prop} {a:Act} {w:World} (n:Nat) (hm:P.follows .mixedOrders=true) (hB:zGF l n=true)
 (h:wpQuiet P (l.take n).toArray (fun w' => ∃ p:Regrown,w'=grow (redrawn w p.d) p.os) (fun a' => ∀ w',(∃ p:Regrown,w'=grow (redrawn w p.d) p.os)→wpList P l.toArray Q (l.drop n) a' w') (l.take n) a) :
 (Code.region id l.toArray true).wp P Q a w :=
 zOf (C:=fun w' => ∃ p:Regrown,w'=grow (redrawn w p.d) p.os) n hm hB ⟨⟨w.drawn+1,#[]⟩,by rw [grow_empty];rfl⟩ h
end
end
section
open Go.RowKit Go.Sort Go.Maps
open Oct
open Classical in
noncomputable def idT (ts:List Tr) (t:Tr):Nat:=ts.idxOf t
theorem zGN {ts:List Tr} {t:Tr} (h:t∈ts):idT ts t<ts.length:=by
 classical
 unfold idT;exact List.idxOf_lt_length_of_mem h
theorem zGM {ts:List Tr} {t:Tr} (h:t∈ts):ts[idT ts t]? = some t:=by
 classical
 have hl:ts.idxOf t<ts.length:=List.idxOf_lt_length_of_mem h;have e:ts[ts.idxOf t]? = some t:=by rw [lge hl,List.getElem_idxOf hl]
 exact e
theorem zY {ts:List Tr} {t t':Tr} (h:t∈ts) (h':t'∈ts) (e:idT ts t=idT ts t'):t=t':=by
 have h1:=zGM h;rw [e,zGM h'] at h1;exact (osi h1).symm
theorem zZ {ts ts':List Tr} (hp:ts <+: ts') {t:Tr} (h:t∈ts):idT ts' t=idT ts t:=by
 classical
 obtain ⟨r,rfl⟩:=hp;unfold idT;rw [List.idxOf_append,if_pos h]
theorem zGO {ts:List Tr} {t:Tr} (h:t ∉ ts):idT (ts++[t]) t=ts.length:=by
 classical
 unfold idT;rw [List.idxOf_append,if_neg h];simp
noncomputable def zo (ts:List Tr):Tr→Value
 | .uni c=>zIq 1 c ByteArray.empty 0 0 0 0 0 0 0 0 0
 | .brick l=>zIq 2 0 (strOfNums l) 2 0 0 0 0 0 0 0 0
 | .node d ch=>zIq 3 0 ByteArray.empty d (idT ts (ch 0)) (idT ts (ch 1)) (idT ts (ch 2)) (idT ts (ch 3)) (idT ts (ch 4)) (idT ts (ch 5)) (idT ts (ch 6)) (idT ts (ch 7))
def Leans (ts:List Tr) (t:Tr):Prop := ∀ d ch,t = .node d ch → ∀ i,ch i∈ts
theorem zq {ts ts':List Tr} (hp:ts <+: ts') {t:Tr} (h:Leans ts t):zo ts' t=zo ts t:=by
 cases t with
 | uni c=>rfl
 | brick l=>rfl
 | node d ch =>
   have e : ∀ i,idT ts' (ch i)=idT ts (ch i):=fun i=>zZ hp (h d ch rfl i);unfold zo;simp only [e]
theorem fin8 {P:Fin 8→Prop} (h0:P 0) (h1:P 1) (h2:P 2) (h3:P 3) (h4:P 4) (h5:P 5) (h6:P 6) (h7:P 7) : ∀ i,P i:=by
 intro i
 match i with
 | 0=>exact h0
 | 1=>exact h1
 | 2=>exact h2
 | 3=>exact h3
 | 4=>exact h4
 | 5=>exact h5
 | 6=>exact h6
 | 7=>exact h7
structure Bytes (t:Tr):Prop where
 bricks : ∀ l,t = .brick l→l.length=64 ∧ ∀ x∈l,0≤x∧x≤255
 unis : ∀ c,t = .uni c→0≤c∧c≤255
 nodes : ∀ d ch,t = .node d ch→d≤255
theorem Bytes.uni {c:Int} (h:0≤c∧c≤255):Bytes (.uni c):=⟨fun l e=>(by cases e),fun c' e=>(by injection e with e;exact e ▸ h),fun d ch e=>(by cases e)⟩
theorem Bytes.brick {l:List Int} (h:l.length=64 ∧ ∀ x∈l,0≤x∧x≤255):Bytes (.brick l):=⟨fun l' e=>(by injection e with e;exact e ▸ h),fun c e=>(by cases e),fun d ch e=>(by cases e)⟩
theorem Bytes.node {d:Nat} (h:d≤255) (ch:Fin 8→Tr):Bytes (.node d ch):=⟨fun l e=>(by cases e),fun c e=>(by cases e),fun d' ch' e=>(by injection e with e _;exact e ▸ h)⟩
theorem zM0 : ∀ {l l':List Int},(∀ x∈l,0≤x∧x≤255)→(∀ x∈l',0≤x∧x≤255)→strOfNums l=strOfNums l'→l=l':=by
 intro l l' h h' e
 have e1:l.map (fun n=>UInt8.ofNat n.toNat)=l'.map (fun n=>UInt8.ofNat n.toNat):=by
  rw [←strOfNums_data,←strOfNums_data,e]
 clear e
 induction l generalizing l' with
 | nil => cases l' with
   | nil=>rfl
   | cons y r=>simp at e1
 | cons x l ih => cases l' with
   | nil=>simp at e1
   | cons y r =>
     simp only [List.map_cons,List.cons.injEq] at e1;have hx:=h x (by simp)
     have hy:=h' y (by simp)
     have e2:=congrArg UInt8.toNat e1.1;simp only [UInt8.toNat_ofNat'] at e2;have:x=y:=by omega
     rw [this,ih (fun z hz=>h z (by simp [hz])) (fun z hz=>h' z (by simp [hz])) e1.2]
theorem zIy {ts:List Tr} {t t':Tr} (h:Leans ts t) (h':Leans ts t') (hb:Bytes t) (Jp:Bytes t') (e:zo ts t=zo ts t'):t=t':=by
 cases t with
 | uni c => cases t' with
   | uni c'=>simp [zo,zIq] at e;rw [e]
   | brick l=>simp [zo,zIq] at e
   | node d ch=>simp [zo,zIq] at e
 | brick l => cases t' with
   | uni c'=>simp [zo,zIq] at e
   | brick l'=>simp [zo,zIq] at e;rw [zM0 (hb.bricks l rfl).2 (Jp.bricks l' rfl).2 e]
   | node d ch=>simp [zo,zIq] at e
 | node d ch => cases t' with
   | uni c'=>simp [zo,zIq] at e
   | brick l'=>simp [zo,zIq] at e
   | node d' ch' =>
     simp only [zo,zIq,Value.agg.injEq,Array.mk.injEq,List.cons.injEq,Value.int.injEq,true_and,and_true,Int.natCast_inj] at e;obtain ⟨e1,e2⟩:=e;subst e1
     have:ch=ch':=funext (fin8 (P:=fun i=>ch i=ch' i) (zY (h _ _ rfl _) (h' _ _ rfl _) e2.1) (zY (h _ _ rfl _) (h' _ _ rfl _) e2.2.1) (zY (h _ _ rfl _) (h' _ _ rfl _) e2.2.2.1) (zY (h _ _ rfl _) (h' _ _ rfl _) e2.2.2.2.1)
      (zY (h _ _ rfl _) (h' _ _ rfl _) e2.2.2.2.2.1) (zY (h _ _ rfl _) (h' _ _ rfl _) e2.2.2.2.2.2.1) (zY (h _ _ rfl _) (h' _ _ rfl _) e2.2.2.2.2.2.2.1) (zY (h _ _ rfl _) (h' _ _ rfl _) e2.2.2.2.2.2.2.2))
     rw [this]
end
section
open Go.RowKit Go.Sort Go.Maps
open Oct
structure Good (ts:List Tr):Prop where
 closed:Tr.Closed ts
 bytes : ∀ t∈ts,Bytes t
theorem Good.leans {ts:List Tr} (h:Good ts) {t:Tr} (ht:t∈ts):Leans ts t:=fun d ch e i=>h.closed.2 d ch (e ▸ ht) i
theorem Leans.la {ts ts':List Tr} (hp:ts <+: ts') {t:Tr} (h:Leans ts t):Leans ts' t:=fun d ch e i=>hp.subset (h d ch e i)
open Classical in
noncomputable def zG0 (ts:List Tr) (v:Value):Option Int:=if h : ∃ t,t∈ts∧zo ts t=v then some (idT ts h.choose:Int) else none
theorem zG3 {ts:List Tr} (hG:Good ts) {t:Tr} (ht:t∈ts):zG0 ts (zo ts t)=some (idT ts t:Int):=by
 have h : ∃ t',t'∈ts∧zo ts t'=zo ts t:=⟨t,ht,rfl⟩;unfold zG0;rw [dif_pos h];have hs:=h.choose_spec;have e:h.choose=t:=zIy (hG.leans hs.1) (hG.leans ht) (hG.bytes _ hs.1) (hG.bytes _ ht) hs.2;rw [e]
theorem zG5 {ts:List Tr} (hG:Good ts) {t:Tr} (ht:t ∉ ts) (hl:Leans ts t) (hb:Bytes t):zG0 ts (zo ts t)=none:=by
 unfold zG0;rw [dif_neg];rintro ⟨t',h1,h2⟩;exact ht (zIy (hG.leans h1) hl (hG.bytes _ h1) hb h2 ▸ h1)
open Classical in
theorem zG1 {ts:List Tr} (hG:Good ts) {t:Tr} (ht:t ∉ ts) (hl:Leans ts t) (hb:Bytes t) (v:Value) :
 zG0 (ts++[t]) v=if v=zo ts t then some (ts.length:Int) else zG0 ts v:=by
 have hp:ts <+: ts++[t]:=List.prefix_append _ _
 have OT : ∀ t'∈ts++[t],Leans (ts++[t]) t':=fun t' h=>by
  rcases List.mem_append.1 h with h | h
  · exact (hG.leans h).la hp
  · rw [List.mem_singleton.1 h];exact hl.la hp
 have Js : ∀ t'∈ts++[t],Bytes t':=fun t' h=>by
  rcases List.mem_append.1 h with h | h
  · exact hG.bytes _ h
  · rw [List.mem_singleton.1 h];exact hb
 have Uy : ∀ x,x∈ts++[t]→zo (ts++[t]) x=v→zG0 (ts++[t]) v=some (idT (ts++[t]) x:Int):=by
  intro x hx e;have h : ∃ t',t'∈ts++[t]∧zo (ts++[t]) t'=v:=⟨x,hx,e⟩;unfold zG0;rw [dif_pos h];have hs:=h.choose_spec;rw [zIy (OT _ hs.1) (OT _ hx) (Js _ hs.1) (Js _ hx) (hs.2.trans e.symm)]
 by_cases e:v=zo ts t
 · rw [if_pos e,Uy t (by simp) (by rw [zq hp hl,e]),zGO ht]
 · rw [if_neg e];by_cases h : ∃ t',t'∈ts∧zo ts t'=v
   · obtain ⟨x,hx,TD⟩:=h;rw [Uy x (by simp [hx]) (by rw [zq hp (hG.leans hx)];exact TD),zZ hp hx,←TD,zG3 hG hx]
   · have h2 : ¬ ∃ t',t'∈ts++[t]∧zo (ts++[t]) t'=v:=by
      rintro ⟨x,hx,TD⟩;rcases List.mem_append.1 hx with hx | hx
      · exact h ⟨x,hx,by rw [←zq hp (hG.leans hx)];exact TD⟩
      · rw [List.mem_singleton.1 hx,zq hp hl] at TD;exact e TD.symm
     unfold zG0;rw [dif_neg h,dif_neg h2]
theorem Good.add {ts:List Tr} (hG:Good ts) {t:Tr} (ht:t ∉ ts) (hl:Leans ts t) (hb:Bytes t):Good (ts++[t]):=by
 refine ⟨⟨?_,fun d ch h i=>?_⟩,fun x h=>?_⟩
 · rw [List.nodup_append];exact ⟨hG.closed.1,by simp,fun a ha b Jp e=>by rw [List.mem_singleton.1 Jp] at e;exact ht (e ▸ ha)⟩
 · rcases List.mem_append.1 h with h | h
   · exact List.mem_append_left _ (hG.closed.2 d ch h i)
   · exact List.mem_append_left _ (hl d ch (List.mem_singleton.1 h).symm i)
 · rcases List.mem_append.1 h with h | h
   · exact hG.bytes _ h
   · rw [List.mem_singleton.1 h];exact hb
noncomputable def zLi (ts:List Tr):List Value:=ts.flatMap fun t=>(zo ts t).cells.toList
theorem zLj {ts:List Tr} (hG:Good ts) {t:Tr} (hl:Leans ts t):zLi (ts++[t])=zLi ts++(zo ts t).cells.toList:=by
 have hp:ts <+: ts++[t]:=List.prefix_append _ _;unfold zLi;rw [List.flatMap_append,List.flatMap_cons,List.flatMap_nil,List.append_nil,zq hp hl]
 congr 1
 have key : ∀ l:List Tr,(∀ x∈l,x∈ts)→l.flatMap (fun t'=>(zo (ts++[t]) t').cells.toList)=l.flatMap (fun t'=>(zo ts t').cells.toList):=by
  intro l
  induction l with
  | nil=>intro _;rfl
  | cons x r ih =>
    intro h;rw [List.flatMap_cons,List.flatMap_cons,ih (fun y hy=>h y (by simp [hy])),zq hp (hG.leans (h x (by simp)))]
 exact key ts fun x hx=>hx
def StoreIs (w:World) (Far:Nat→Prop) (sb:Nat) (UA:Int) (ts:List Tr):Prop :=
 ∃ mb nv,Bk w sb #[UA,nv,.map (some mb)] 113∧w.ownsRow 0 145 12 nv ts.length (zLi ts)∧MapFn w mb ts.length (zG0 ts) ∧ ¬Far sb ∧ ¬Far mb∧(∀ g,nv.ownBlock=some g → ¬Far g)∧sb ≠ mb∧nv.ownBlock ≠ some sb∧nv.ownBlock ≠ some mb
theorem zV {w w':World} (hb:Below w.heap.size w w'):w.grownBy w' none:=⟨hb.os,hb.tape,hb.output,hb.size,fun k hk _=>hb.block k hk⟩
theorem StoreIs.la {w w':World} {Far:Nat→Prop} {sb:Nat} {UA:Int} {ts:List Tr} (h:StoreIs w Far sb UA ts) (hb:Below w.heap.size w w'):StoreIs w' Far sb UA ts:=by
 obtain ⟨mb,nv,h1,h2,h3,h4⟩:=h;have hg:=zV hb;exact ⟨mb,nv,h1.la hb,World.ownsRow.kept h2 hg (by cases nv.ownBlock <;> simp),h3.kept hg (by simp),h4⟩
theorem StoreIs.widen {w:World} {Far Far':Nat→Prop} {sb:Nat} {UA:Int} {ts:List Tr} (h:StoreIs w Far sb UA ts) (hf : ∀ k,Far' k→Far k∨w.heap.size≤k):StoreIs w Far' sb UA ts:=by
 obtain ⟨mb,nv,h1,h2,h3,h4,h5,h6,h7⟩:=h;have l1:=h1.lt;have l2:=h3.lt;refine ⟨mb,nv,h1,h2,h3,fun h=>?_,fun h=>?_,fun g hg h=>?_,h7⟩
 · rcases hf _ h with h | h
   · exact h4 h
   · omega
 · rcases hf _ h with h | h
   · exact h5 h
   · omega
 · rcases hf _ h with h | h
   · exact h6 g hg h
   · have:=(World.ownsRow.lt h2 g hg).2;omega
structure Keeps (Far:Nat→Prop) (w w':World):Prop where
 os:w'.os=w.os
 tape:w'.tape=w.tape
 output:w'.output=w.output
 size:w.heap.size≤w'.heap.size
 block : ∀ k,Far k→k<w.heap.size→w'.heap[k]? = w.heap[k]?
theorem Keeps.refl (Far:Nat→Prop) (w:World):Keeps Far w w:=⟨rfl,rfl,rfl,nlr,fun _ _ _=>rfl⟩
theorem Keeps.trans {Far:Nat→Prop} {a b c:World} (h:Keeps Far a b) (h':Keeps Far b c):Keeps Far a c :=
 ⟨h'.os.trans h.os,h'.tape.trans h.tape,h'.output.trans h.output,nlt h.size h'.size,fun k hk hl=>(h'.block k hk (nll hl h.size)).trans (h.block k hk hl)⟩
theorem Keeps.below {Far:Nat→Prop} {a b:World} (h:Below a.heap.size a b):Keeps Far a b:=⟨h.os,h.tape,h.output,h.size,fun k _ hl=>h.block k hl⟩
theorem Keeps.grown {Far:Nat→Prop} {a b:World} {row:Option Nat} (h:a.grownBy b row) (hr : ∀ g,row=some g → ¬Far g):Keeps Far a b :=
 ⟨h.os,h.tape,h.output,h.size,fun k hk hl=>h.block k hl (fun e=>hr k e.symm hk)⟩
theorem Keeps.narrow {Far Far':Nat→Prop} {a b:World} (h:Keeps Far a b) (hf : ∀ k,Far' k→k<a.heap.size→Far k):Keeps Far' a b:=⟨h.os,h.tape,h.output,h.size,fun k hk hl=>h.block k (hf k hk hl) hl⟩
theorem Bk.far {w w':World} {Far:Nat→Prop} {b:Nat} {vs:Array Value} {t:TypeId} (h:Bk w b vs t) (hk:Keeps Far w w') (hf:Far b):Bk w' b vs t:=(hk.block b hf h.lt).trans h
end
section
open Go.Sort Go.RowKit
@[go_sem] def Oper.calmUpon (P : Program) (w : World) (v : Value) : Result Next → Prop
  | .ok (.value u) w'=>w'=w∧u=v
  | .ok .skip w'=>w'=w∧v=undef
  | .ok (.enter f args) w'=>w'=w∧Calls P f args w (fun e V0=>e = .returned v∧Below w.heap.size w V0)
  | _=>False
@[go_sem] def Oper.calmAt (P:Program) (o:Oper) (a:Act) (w:World) (v:Value):Prop:=calmUpon P w v ((execOp a.eval o).run P w)
def zOR (P:Program) (W:World) (Q:Act→Prop):List Oper→Act→Prop
 | [],a=>Q a
 | o::rest,a => ∃ v,(∀ p:Regrown,Oper.calmAt P o a (grow (redrawn W p.d) p.os) v)∧zOR P W Q rest (a.put o.dst v)
theorem zOS {P:Program} {W:World} {Q:Act→Prop} {a:Act} (h:Q a):zOR P W Q [] a:=h
theorem zOT {P:Program} {W:World} {Q:Act→Prop} {a:Act} {o:Oper} {rest:List Oper}
 (h : ∀ K:Act→Prop,(∀ a,zOR P W Q rest a→K a) → ∃ v,(∀ p:Regrown,Oper.calmAt P o a (grow (redrawn W p.d) p.os) v)∧K (a.put o.dst v)):zOR P W Q (o::rest) a :=
 h _ (fun _ h=>h)
def zKg (L:List (Option Tmp × Value)) (a:Act):Act:=L.foldl (fun a p=>a.put p.1 p.2) a
theorem zKf (a:Act) (d:Option Tmp) (v:Value):(a.put d v).tmps.size=a.tmps.size:=by cases d <;> simp [Act.put]
theorem zKd (a:Act) (d:Option Tmp) (v:Value):(a.put d v).defers=a.defers:=by cases d <;> simp [Act.put]
theorem zKe {a:Act} {d:Tmp} (v:Value) (h:d<a.tmps.size):(a.put (some d) v).tmps[d]? = some v:=by simp [Act.put,h]
theorem zv {a:Act} {d:Option Tmp} {x:Tmp} (v:Value) (h:d ≠ some x):(a.put d v).tmps[x]? = a.tmps[x]? := by
 cases d with
 | none=>rfl
 | some d=>simp only [Act.put];rw [Array.getElem?_setIfInBounds_ne (fun e=>h (by rw [e]))]
theorem zKj : ∀ (L:List (Option Tmp × Value)) (a:Act),(zKg L a).tmps.size=a.tmps.size∧(zKg L a).defers=a.defers
 | [],_=>⟨rfl,rfl⟩
 | p :: L, a => by
   obtain ⟨h1,h2⟩:=zKj L (a.put p.1 p.2);rw [zKf] at h1;rw [zKd] at h2;exact ⟨h1,h2⟩
theorem zKi : ∀ (L:List (Option Tmp × Value)) (a:Act) (x:Tmp),(∀ p∈L,p.1 ≠ some x)→(zKg L a).tmps[x]? = a.tmps[x]?
 | [],_,_,_=>rfl
 | p :: L, a, x, h => by
   show (zKg L (a.put p.1 p.2)).tmps[x]? = _
   rw [zKi L _ x (fun q hq=>h q (List.mem_cons_of_mem _ hq)),zv _ (h p (by simp))]
theorem zKh : ∀ (L:List (Option Tmp × Value)) (a:Act) (x:Tmp) (v:Value),x<a.tmps.size→L.Pairwise (fun p q => ∀ d,p.1=some d→q.1 ≠ some d)→(some x,v)∈L→(zKg L a).tmps[x]? = some v
 | [],_,_,_,_,_,h=>by simp at h
 | p :: L, a, x, v, hx, hp, h => by
   show (zKg L (a.put p.1 p.2)).tmps[x]? = _
   rw [List.pairwise_cons] at hp;rcases List.mem_cons.1 h with rfl | h
   · rw [zKi L _ x (fun q hq=>hp.1 q hq x rfl),zKe _ hx]
   · exact zKh L _ x v (by rw [zKf];exact hx) hp.2 h
theorem zAl {a b:Act} (h1:a.defers=b.defers) (h2 : ∀ x:Nat,a.tmps[x]? = b.tmps[x]?):a=b:=by
 obtain ⟨at',ad⟩:=a;obtain ⟨bt,bd⟩:=b;simp only at h1 h2;rw [h1,Array.ext_getElem? h2]
def zR (l:List Oper) (i:Nat):Option Tmp:=(l[i]?).bind (·.dst)
theorem zBw {P:Program} {W:World} {Q:Act→Prop} : ∀ (L:List Oper) (a:Act),zOR P W Q L a → ∃ vs:List Value,vs.length=L.length∧Q (zKg ((L.map (·.dst)).zip vs) a) ∧
 ∀ i o v,L[i]? = some o→vs[i]? = some v → ∀ p:Regrown,Oper.calmAt P o (zKg (((L.map (·.dst)).zip vs).take i) a) (grow (redrawn W p.d) p.os) v
 | [],a,h=>⟨[],rfl,h,fun i o v hi=>by simp at hi⟩
 | o :: L, a, h => by
   obtain ⟨v,hv,h⟩:=h;obtain ⟨vs,h1,h2,h3⟩:=zBw L _ h;refine ⟨v::vs,by simp [h1],h2,fun i o' v' hi SQ p=>?_⟩
   cases i with
   | zero=>simp at hi SQ;subst hi;subst SQ;exact hv p
   | succ i=>exact h3 i o' v' (by simpa using hi) (by simpa using SQ) p
structure DeclOps (P:Program) (l:List Oper) (n k:Nat) (sl u:Nat→Tmp) (T:Nat→TypeId) (z vs:Nat→Array Value):Prop where
 al : ∀ j,j<k → ∃ o,l[n+j]? = some o∧o.guard=none∧o.dst=some (sl j) ∧ ∀ ρ w,(execOp ρ o).run P w = .ok (.value (.pointer (some ⟨w.heap.size,0,none⟩))) (w.alloc (.cells (z j) (T j)))
 st : ∀ j,j<k → ∃ o,l[n+k+j]? = some o∧o.guard=none∧o.dst=none ∧ ∀ ρ w g,ρ (.tmp (sl j)) = .pointer (some ⟨g,0,none⟩)→ρ (.tmp (u j)) = .agg (vs j)→Bk w g (z j) (T j) →
  ∃ w',(execOp ρ o).run P w = .ok .skip w'∧Bk w' g (vs j) (T j)∧w.grownBy w' (some g)∧w'.heap.size=w.heap.size
def zD9 (l:List Oper) (n k:Nat) (u:Nat→Tmp):Bool :=
 decide (l.length=n+k+k) && zBa .any l (n+k+k) && Region.noSelect l.toArray &&
 ((List.range n).all fun i => match l[i]? with
   | some o => o.guard.isNone && o.op.operands.toList.all fun x => match x with
     | .tmp d=>(List.range (n+k+k)).all fun j => !decide (zR l j=some d) || (decide (j<i) && Region.waitsFor .any l.toArray i j)
     | _=>true
   | none=>false) &&
 ((List.range (n+k+k)).all fun i=>(List.range (n+k+k)).all fun j=>decide (i=j) || (zR l i).isNone || !decide (zR l i=zR l j)) &&
 ((List.range k).all fun j=>Region.waitsFor .any l.toArray (n+k+j) (n+j) && (List.range n).any fun h=>decide (zR l h=some (u j)) && Region.waitsFor .any l.toArray (n+k+j) h)
section
variable {P:Program} {l:List Oper} {n k:Nat} {sl u:Nat→Tmp} {T:Nat→TypeId} {z vs:Nat→Array Value} {W:World} {a:Act} {hv:List Value}
structure DeclB (l:List Oper) (n k:Nat) (u:Nat→Tmp):Prop where
 len:l.length=n+k+k
 back:zBa .any l (n+k+k)=true
 nosel:Region.noSelect l.toArray=true
 guard : ∀ i o,i<n→l[i]? = some o→o.guard=none
 data : ∀ i o d j,i<n→l[i]? = some o → .tmp d∈o.op.operands→j<n+k+k→zR l j=some d→j<i∧Region.waitsFor .any l.toArray i j=true
 dist : ∀ i j d,i<n+k+k→j<n+k+k→i ≠ j→zR l i=some d→zR l j ≠ some d
 sta : ∀ j,j<k→Region.waitsFor .any l.toArray (n+k+j) (n+j)=true
 sth : ∀ j,j<k → ∃ h,h<n∧zR l h=some (u j)∧Region.waitsFor .any l.toArray (n+k+j) h=true
theorem zEA (h:zD9 l n k u=true):DeclB l n k u:=by
 simp only [zD9,Bool.and_eq_true,decide_eq_true_eq] at h;obtain ⟨⟨⟨⟨⟨h1,h2⟩,h3⟩,h4⟩,h5⟩,h6⟩:=h;refine ⟨h1,h2,h3,fun i o hi ho=>?_,fun i o d j hi ho hd hj MF=>?_,fun i j d hi hj Ph ME MF=>?_,fun j hj=>?_,fun j hj=>?_⟩
 · have:=List.all_eq_true.1 h4 i (List.mem_range.2 hi);simp only [ho,Bool.and_eq_true,Option.isNone_iff_eq_none] at this;exact this.1
 · have:=List.all_eq_true.1 h4 i (List.mem_range.2 hi);simp only [ho,Bool.and_eq_true] at this;have:=List.all_eq_true.1 this.2 (.tmp d) (by simpa using hd)
   have:=List.all_eq_true.1 this j (List.mem_range.2 hj);simpa [MF] using this
 · have:=List.all_eq_true.1 (List.all_eq_true.1 h5 i (List.mem_range.2 hi)) j (List.mem_range.2 hj);simp [Ph,ME,MF] at this
 · have:=List.all_eq_true.1 h6 j (List.mem_range.2 hj);simp only [Bool.and_eq_true] at this;exact this.1
 · have:=List.all_eq_true.1 h6 j (List.mem_range.2 hj);simp only [Bool.and_eq_true] at this;obtain ⟨h,hh,h7⟩:=List.any_eq_true.1 this.2;simp only [Bool.and_eq_true,decide_eq_true_eq] at h7;exact ⟨h,List.mem_range.1 hh,h7.1,h7.2⟩
structure DI (l:List Oper) (n k:Nat) (sl:Nat→Tmp) (T:Nat→TypeId) (z vs:Nat→Array Value) (W:World) (a:Act) (hv:List Value) (s:Array Bool) (a':Act) (w':World):Prop where
 size:s.size=n+k+k
 tsize:a'.tmps.size=a.tmps.size
 defers:a'.defers=a.defers
 old : ∀ x:Nat,(∀ i,s.getD i false=true→zR l i ≠ some x)→a'.tmps[x]? = a.tmps[x]?
 head : ∀ i d v,i<n→s.getD i false=true→zR l i=some d→hv[i]? = some v→a'.tmps[d]? = some v
 below:Below W.heap.size W w'
 al : ∀ j,j<k→s.getD (n+j) false=true → ∃ g,a'.tmps[sl j]? = some (.pointer (some ⟨g,0,none⟩))∧W.heap.size≤g∧Bk w' g (if s.getD (n+k+j) false=true then vs j else z j) (T j)
 ne : ∀ i j g,i<k→j<k→i ≠ j→s.getD (n+i) false=true→s.getD (n+j) false=true→a'.tmps[sl i]? = some (.pointer (some ⟨g,0,none⟩))→a'.tmps[sl j]? ≠ some (.pointer (some ⟨g,0,none⟩))
 cl : ∀ j,j<k→s.getD (n+k+j) false=true→s.getD (n+j) false=true
theorem zFi {s:Array Bool} {i:Nat} (h:i<s.size):(s.setIfInBounds i true).getD i false=true:=by simp [Array.getD_eq_getD_getElem?,h]
theorem zKV {g g':Nat} (h:(some (Value.pointer (some ⟨g,0,none⟩)):Option Value)=some (.pointer (some ⟨g',0,none⟩))):g=g':=by simpa using h
theorem zOB {s:Array Bool} {i j:Nat} (h:Region.waitsFor .any l.toArray i j=true) (hr:i∈Region.ready .any l.toArray s):s.getD j false=true:=by
 obtain ⟨o,ho,e,he,hb,QK⟩:=Region.waitsFor_spec h;obtain ⟨_,o',Q4,Jd⟩:=mem_ready.1 hr;obtain rfl:o=o':=osi (ho.symm.trans Q4);have:=Jd e he hb;rwa [QK] at this
theorem zEw {a b:Act} {d:Tmp} (h:a.tmps[d]? = b.tmps[d]?):a.eval (.tmp d)=b.eval (.tmp d):=by
 simp only [Act.eval,Array.getD_eq_getD_getElem?,h]
theorem zBd {W w w':World} {g:Nat} (h:Below W.heap.size W w) (hg:w.grownBy w' (some g)) (hW:W.heap.size≤g):Below W.heap.size W w' :=
 h.grown hg h.size (fun k hk=>by cases hk;exact hW)
theorem zLP {W w:World} (h:Below W.heap.size W w) : ∃ p:Regrown,w=grow (redrawn W p.d) p.os:=regrown_of_below h
theorem zEK (B:DeclB l n k u) (D:DeclOps P l n k sl u T z vs) (Od:hv.length=n)
 (LC : ∀ i o v,i<n→l[i]? = some o→hv[i]? = some v → ∀ p:Regrown,Oper.calmAt P o (zKg ((((l.take n).map (·.dst)).zip hv).take i) a) (grow (redrawn W p.d) p.os) v)
 (S9 : ∀ i d,i<n+k+k→zR l i=some d→d<a.tmps.size)
 (hu : ∀ j,j<k → ∀ h,h<n→zR l h=some (u j)→hv[h]? = some (.agg (vs j)))
 {Q:Exit→Act→World→Prop} {s:Array Bool} {a':Act} {w':World} (I:DI l n k sl T z vs W a hv s a' w') {i:Nat} (hr:i∈Region.ready .any l.toArray s) :
 wpOp P l.toArray Q i (fun a'' V0=>DI l n k sl T z vs W a hv (s.setIfInBounds i true) a'' V0) a' w':=by
 obtain ⟨SO,o,ho,Jd⟩:=mem_ready.1 hr;have Nr:i<n+k+k:=by have:=(Array.getElem?_eq_some_iff.1 ho).1;simp [B.len] at this;exact this
 have NZ:i<s.size:=by rw [I.size];exact Nr
 have QH:l[i]? = some o:=by simpa using ho
 have MJ:zR l i=o.dst:=by simp [zR,QH]
 have Pm : ∀ j,j ≠ i→(s.setIfInBounds i true).getD j false=s.getD j false:=fun j hj=>getD_set_ne false (Ne.symm hj);have Rg:=zFi NZ
 have Pp:s.getD i false=false:=by
  cases hx:s.getD i false with
  | false=>rfl
  | true=>have:=getD_both SO;rw [hx] at this;cases this
 have UF : ∀ v (x:Nat),(∀ j,(s.setIfInBounds i true).getD j false=true→zR l j ≠ some x)→(a'.put o.dst v).tmps[x]? = a.tmps[x]? := fun v x hx=>by
  have h1:=hx i Rg;rw [MJ] at h1;rw [zv v h1];refine I.old x fun j hj=>hx j ?_;by_cases e:j=i
  · subst e;exact Rg
  · rw [Pm j e];exact hj
 unfold wpOp;simp only [ho];rcases Nat.lt_or_ge i n with hin | hge
 · -- an operation of the head
   have hg:=B.guard i o hin QH;have hw:Region.wanted o (yielded l.toArray a'.tmps)=true:=by simp [Region.wanted,hg]
   rw [if_pos hw];left;obtain ⟨v,Sg⟩ : ∃ v,hv[i]? = some v:=⟨_,lge (by omega)⟩
   obtain ⟨p,rfl⟩:=zLP I.below;have hc:=LC i o v hin QH Sg p
   -- the operands read as in the text's own order
   have hev:execOp a'.eval o=execOp (zKg ((((l.take n).map (·.dst)).zip hv).take i) a).eval o:=by
    refine execOp_congr o (Region.noSelect_spec B.nosel i o · · ho) fun x hx=>?_;cases x with
    | tmp d =>
      refine zEw ?_;by_cases hw : ∃ j,j<n+k+k∧zR l j=some d
      · obtain ⟨j,hj,MF⟩:=hw;obtain ⟨O2,T7⟩:=B.data i o d j hin QH hx hj MF;have Ov:=zOB T7 hr;obtain ⟨vj,Si⟩ : ∃ v,hv[j]? = some v:=⟨_,lge (by omega)⟩
        rw [I.head j d vj (by omega) Ov MF Si]
        symm;apply zKh
        · exact S9 j d hj MF
        · rw [List.pairwise_iff_getElem];intro p q hp hq Qo d' h1 h2;simp only [List.length_take,List.length_zip,List.length_map] at hp hq;simp only [List.getElem_take,List.getElem_zip,List.getElem_map] at h1 h2;refine B.dist p q d' (by omega) (by omega) (by omega) ?_ ?_
          · simp only [zR,lge (show p<l.length by have:=B.len;omega),Option.bind_some];exact h1
          · simp only [zR,lge (show q<l.length by have:=B.len;omega),Option.bind_some];exact h2
        · rw [List.mem_iff_getElem?];refine ⟨j,?_⟩;rw [List.getElem?_take,if_pos O2,List.getElem?_zip_eq_some];refine ⟨?_,Si⟩;rw [List.getElem?_map,List.getElem?_take,if_pos (by omega)]
          unfold zR at MF;cases hlj':l[j]? with
          | none=>simp [hlj'] at MF
          | some oj=>simp [hlj'] at MF;simp [MF]
      · rw [I.old d fun j hj e=>hw ⟨j,by
         rw [←I.size];rcases Nat.lt_or_ge j s.size with h | h
         · exact h
         · simp [Array.getD_eq_getD_getElem?,Array.getElem?_eq_none h] at hj,e⟩]
        symm;apply zKi;intro p hp e;obtain ⟨q,hq⟩:=List.mem_iff_getElem?.1 hp;rw [List.getElem?_take] at hq;split at hq
        · rename_i hqi;obtain ⟨p1,p2⟩:=p;obtain ⟨Qy,_⟩:=List.getElem?_zip_eq_some.1 hq;rw [List.getElem?_map,List.getElem?_take,if_pos (by omega)] at Qy
          refine hw ⟨q,by omega,?_⟩
          unfold zR;cases hlq:l[q]? with
          | none=>simp [hlq] at Qy
          | some oq=>simp [hlq] at Qy;simp only at e;simp [Qy,e]
        · cases hq
    | const v=>rfl
    | global g=>rfl
    | func f=>rfl
   have post : ∀ V0,Below (grow (redrawn W p.d) p.os).heap.size (grow (redrawn W p.d) p.os) V0→DI l n k sl T z vs W a hv (s.setIfInBounds i true) (a'.put o.dst v) V0:=by
    intro V0 hb
    have far : ∀ j,j<k→o.dst ≠ some (sl j):=fun j hj e=>by
     obtain ⟨oa,JS,_,JT,_⟩:=D.al j hj;exact B.dist i (n+j) (sl j) Nr (by omega) (by omega) (by rw [MJ];exact e) (by simp [zR,JS,JT])
    refine ⟨by simp [I.size],by rw [zKf,I.tsize],by rw [zKd,I.defers],UF v,fun j d vj hj hs MF Si=>?_,tr I.below hb,fun j hj hs=>?_,fun j j' g hj hj' Ph h1 h2 h3=>?_,fun j hj hs=>by rw [Pm _ (by omega)] at hs ⊢; exact I.cl j hj hs⟩
    · by_cases e:j=i
      · subst e;rw [MJ] at MF;rw [MF,zKe v (by rw [I.tsize];exact S9 j d Nr (by rw [MJ];exact MF))]
        rw [←Sg,Si]
      · rw [Pm j e] at hs;rw [zv v (fun e'=>B.dist j i d (by omega) Nr e MF (by rw [MJ];exact e'))]
        exact I.head j d vj hj hs MF Si
    · rw [Pm _ (by omega)] at hs
      rw [Pm _ (by omega),zv v (far j hj)]
      obtain ⟨g,h1,h2,h3⟩:=I.al j hj hs;exact ⟨g,h1,h2,h3.la hb⟩
    · rw [Pm _ (by omega)] at h1 h2
      rw [zv v (far j hj)] at h3;rw [zv v (far j' hj')];exact I.ne j j' g hj hj' Ph h1 h2 h3
   unfold Oper.calmAt at hc;unfold Oper.wp;rw [hev];generalize (execOp (zKg ((((l.take n).map (·.dst)).zip hv).take i) a).eval o).run P (grow (redrawn W p.d) p.os)=r at hc;cases r with
   | ok nx V0 =>
     cases nx <;> simp only [Oper.calmUpon] at hc <;> simp only [Oper.upon]
     case value x =>
      obtain ⟨rfl,rfl⟩:=hc;exact post _ br
     case skip =>
      obtain ⟨rfl,e⟩:=hc;rw [←e];exact post _ br
     case enter f args =>
      obtain ⟨rfl,hc⟩:=hc;refine hc.mono fun e w3 ⟨he,hb⟩=>?_;subst he;exact post _ hb
   | halt x V0=>simp only [Oper.calmUpon] at hc
 · have Ue : ∀ j j',j<k→j'<k→j ≠ j'→sl j ≠ sl j':=fun j j' hj hj' Ph e=>by
    obtain ⟨o1,b1,_,b2,_⟩:=D.al j hj;obtain ⟨o2,b3,_,b4,_⟩:=D.al j' hj';exact B.dist (n+j) (n+j') (sl j) (by omega) (by omega) (by omega) (by simp [zR,b1,b2]) (by simp [zR,b3,b4,e])
   have Ud : ∀ j,j<k→sl j<a.tmps.size:=fun j hj=>by
    obtain ⟨o1,b1,_,b2,_⟩:=D.al j hj;exact S9 (n+j) (sl j) (by omega) (by simp [zR,b1,b2])
   have Uc : ∀ j h d,j<k→h<n→zR l h=some d→sl j ≠ d:=fun j h d hj hh hd e=>by
    obtain ⟨o1,b1,_,b2,_⟩:=D.al j hj;exact B.dist h (n+j) d (by omega) (by omega) (by omega) hd (by simp [zR,b1,b2,e])
   rcases Nat.lt_or_ge i (n+k) with hik | hik
   · -- a new variable
     obtain ⟨j,rfl⟩ : ∃ j,i=n+j:=⟨i - n,by omega⟩
     have hj:j<k:=by omega
     obtain ⟨o',h1,h2,h3,h4⟩:=D.al j hj;obtain rfl:o'=o:=osi (h1.symm.trans QH);have hw:Region.wanted o' (yielded l.toArray a'.tmps)=true:=by simp [Region.wanted,h2]
     rw [if_pos hw];left;unfold Oper.wp;rw [h4];simp only [Oper.upon]
     have S4:s.getD (n+k+j) false=false:=by
      cases hx:s.getD (n+k+j) false with
      | false=>rfl
      | true=>exact absurd (I.cl j hj hx) (by rw [Pp];simp)
     refine ⟨by simp [I.size],by rw [zKf,I.tsize],by rw [zKd,I.defers],UF _,fun j' d vj hj' hs MF Si=>?_,I.below.alloc I.below.size _,fun j' hj' hs=>?_,fun p q g hp hq Ph e1 e2 e3=>?_,fun j' hj' hs=>?_⟩
     · rw [Pm _ (by omega)] at hs
       rw [h3,zv _ (fun e=>Uc j j' d hj hj' MF (osi e))];exact I.head j' d vj hj' hs MF Si
     · rw [Pm (n+k+j') (by omega),h3]
       by_cases e:j'=j
       · subst e;rw [zKe _ (by rw [I.tsize];exact Ud j' hj'),S4]
         exact ⟨_,rfl,I.below.size,Bk.new _ _ _⟩
       · rw [Pm _ (by omega)] at hs
         rw [zv _ (fun e'=>Ue j j' hj hj' (Ne.symm e) (osi e'))];obtain ⟨g,g1,g2,g3⟩:=I.al j' hj' hs;exact ⟨g,g1,g2,g3.alloc _⟩
     · rw [h3] at e3 ⊢
       have key : ∀ r g,r<k→r ≠ j→(s.setIfInBounds (n+j) true).getD (n+r) false=true→(a'.put (some (sl j)) (.pointer (some ⟨w'.heap.size,0,none⟩))).tmps[sl r]? = some (.pointer (some ⟨g,0,none⟩))→a'.tmps[sl r]? = some (.pointer (some ⟨g,0,none⟩))∧s.getD (n+r) false=true∧g<w'.heap.size:=by
        intro r g hr hrj hs hg;rw [Pm _ (by omega)] at hs
        rw [zv _ (fun e'=>Ue j r hj hr (Ne.symm hrj) (osi e'))] at hg;obtain ⟨g',g1,g2,g3⟩:=I.al r hr hs;rw [g1] at hg;have:g'=g:=by simpa using hg
        subst this;exact ⟨g1,hs,g3.lt⟩
       by_cases ep:p=j
       · subst ep;rw [zKe _ (by rw [I.tsize];exact Ud p hp)] at e3
         have eg:=zKV e3;intro e4;have:=(key q g hq (Ne.symm Ph) e2 e4).2.2;omega
       · obtain ⟨k1,k2,k3⟩:=key p g hp ep e1 e3;by_cases eq:q=j
         · subst eq;rw [zKe _ (by rw [I.tsize];exact Ud q hq)]
           intro e4;have eg:=zKV e4;omega
         · intro e4;obtain ⟨k4,k5,_⟩:=key q g hq eq e2 e4;exact I.ne p q g hp hq Ph k2 k5 k1 k4
     · rw [Pm _ (by omega)] at hs
       have:=I.cl j' hj' hs;by_cases e:j'=j
       · subst e;exact Rg
       · rw [Pm _ (by omega)];exact this
   · -- a variable's first store
     obtain ⟨j,rfl⟩ : ∃ j,i=n+k+j:=⟨i - (n+k),by omega⟩
     have hj:j<k:=by omega
     obtain ⟨o',h1,h2,h3,h4⟩:=D.st j hj;obtain rfl:o'=o:=osi (h1.symm.trans QH);have hw:Region.wanted o' (yielded l.toArray a'.tmps)=true:=by simp [Region.wanted,h2]
     rw [if_pos hw];left;have Jb:=zOB (B.sta j hj) hr;obtain ⟨h,hh,MD,Sv⟩:=B.sth j hj;have hlh:=zOB Sv hr;have hvh:=hu j hj h hh MD;have hsu:=I.head h (u j) _ hh hlh MD hvh;obtain ⟨g,g1,g2,g3⟩:=I.al j hj Jb;rw [Pp] at g3;obtain ⟨V0,r1,r2,r3,r4⟩:=h4 a'.eval w' g (by simp [Act.eval,Array.getD_eq_getD_getElem?,g1]) (by simp [Act.eval,Array.getD_eq_getD_getElem?,hsu]) (by simpa using g3)
     unfold Oper.wp;rw [r1];simp only [Oper.upon];have Qt:a'.put o'.dst undef=a':=by rw [h3];rfl
     rw [Qt];have Qu:a'.put o'.dst undef=a':=Qt;refine ⟨by simp [I.size],I.tsize,I.defers,fun x hx=>by have:=UF undef x hx;rwa [Qu] at this,fun j' d vj hj' hs MF Si=>?_,zBd I.below r3 g2,fun j' hj' hs=>?_,fun p q g' hp hq Ph e1 e2 e3=>?_,fun j' hj' hs=>?_⟩
     · rw [Pm _ (by omega)] at hs
       exact I.head j' d vj hj' hs MF Si
     · rw [Pm _ (by omega)] at hs
       obtain ⟨g',k1,k2,k3⟩:=I.al j' hj' hs;refine ⟨g',k1,k2,?_⟩;by_cases e:j'=j
       · subst e;rw [g1] at k1;have:g=g':=by simpa using k1
         subst this;rw [Rg];exact r2
       · rw [Pm _ (by omega)]
         have NH:g' ≠ g:=by
          rintro rfl;exact I.ne j' j g' hj' hj e hs Jb k1 g1
         unfold Bk;rw [r3.block g' k3.lt (by simpa using NH)]
         exact k3
     · rw [Pm _ (by omega)] at e1 e2
       exact I.ne p q g' hp hq Ph e1 e2 e3
     · rw [Pm _ (by omega)]
       by_cases e:j'=j
       · subst e;exact Jb
       · rw [Pm _ (by omega)] at hs
         exact I.cl j' hj' hs
theorem zEJ (B:DeclB l n k u) (D:DeclOps P l n k sl u T z vs) (Od:hv.length=n)
 (LC : ∀ i o v,i<n→l[i]? = some o→hv[i]? = some v → ∀ p:Regrown,Oper.calmAt P o (zKg ((((l.take n).map (·.dst)).zip hv).take i) a) (grow (redrawn W p.d) p.os) v)
 (S9 : ∀ i d,i<n+k+k→zR l i=some d→d<a.tmps.size)
 (hu : ∀ j,j<k → ∀ h,h<n→zR l h=some (u j)→hv[h]? = some (.agg (vs j)))
 {Q:Exit→Act→World→Prop} (hQ : ∀ s a' w',DI l n k sl T z vs W a hv s a' w'→unl s=0→Q .normal a' w') :
 ∀ (f:Nat) (s:Array Bool) (a':Act) (w':World),unl s=f→DI l n k sl T z vs W a hv s a' w'→wpAny P .any l.toArray Q f s a' w'
 | 0, s, a', w', SK, I => by
   refine ⟨?_,hQ s a' w' I SK⟩;cases hr:Region.ready .any l.toArray s with
   | nil=>rfl
   | cons i r =>
     have hi:i∈Region.ready .any l.toArray s:=by rw [hr];simp
     have SO:=(mem_ready.1 hi).1;rw [zN0 SK] at SO
     have Nr:i<s.size:=by
      have:=(mem_ready.1 hi).2;obtain ⟨o,ho,_⟩:=this;have:=(Array.getElem?_eq_some_iff.1 ho).1;simp [B.len] at this;rw [I.size];exact this
     simp [Nr] at SO
 | f + 1, s, a', w', huf, I => by
   refine ⟨fun h0=>?_,fun i hi=>?_⟩
   · obtain ⟨q,hq,hqn⟩:=zNy (s:=s) (by omega)
     obtain ⟨i,hi⟩:=zKp (l:=l) (n:=n+k+k) (g:=0) I.size (by rw [B.len];omega) B.back (q+1) q (by omega) (by rw [←I.size];exact hq) hqn
     simp at hi;rw [h0] at hi;simp at hi
   · refine wpOp_mono (fun a'' V0 I'=>?_) (zEK B D Od LC S9 hu I hi);refine zEJ B D Od LC S9 hu hQ f _ a'' V0 ?_ I';have SO:=(mem_ready.1 hi).1
     have Nr:i<s.size:=by
      obtain ⟨_,o,ho,_⟩:=mem_ready.1 hi;have:=(Array.getElem?_eq_some_iff.1 ho).1;simp [B.len] at this;rw [I.size];exact this
     have:=zNz Nr SO;omega
def zEY (l:List Oper) (m:Nat):Bool:=l.all fun o=>match o.dst with | some d=>decide (d<m) | none=>true
theorem zEZ {m:Nat} (h:zEY l m=true) {i d:Nat} (hd:zR l i=some d):d<m:=by
 unfold zR at hd;cases ho:l[i]? with
 | none=>simp [ho] at hd
 | some o =>
   simp only [ho,Option.bind_some] at hd;have:=List.all_eq_true.1 h o (List.mem_of_getElem? ho);simpa [hd] using this
theorem zAI {id:Nat} {Q:Exit→Act→World→Prop} (n k:Nat) (sl u:Nat→Tmp) (T:Nat→TypeId) (z vs:Nat→Array Value) (hm:P.follows .mixedOrders=true) (hB:zD9 l n k u=true)
 (D:DeclOps P l n k sl u T z vs) (m:Nat) (MI:zEY l m=true) (Jf:a.tmps.size=m)
 (h:zOR P W (fun aH=>(∀ j,j<k→aH.tmps[u j]? = some (.agg (vs j))) ∧
  ∀ (g : Nat → Nat) w', Below W.heap.size W w' → (∀ j, j < k → W.heap.size ≤ g j ∧ Bk w' (g j) (vs j) (T j)) → (∀ i j, i < k → j < k → i ≠ j → g i ≠ g j) →
    wpList P l.toArray Q [] (zKg ((List.range k).map fun j=>(some (sl j),Value.pointer (some ⟨g j,0,none⟩))) aH) w') (l.take n) a):(Code.region id l.toArray true).wp P Q a W:=by
 have S9 : ∀ i d,i<n+k+k→zR l i=some d→d<a.tmps.size:=fun i d _ hd=>by rw [Jf];exact zEZ MI hd
 have B:=zEA hB;have Om:=B.len;obtain ⟨hv,h1,⟨h2,h3⟩,h4⟩:=zBw _ _ h;have hn:(l.take n).length=n:=by simp;omega
 rw [hn] at h1
 have Pz : ∀ i,i<n→(((l.take n).map (·.dst)).zip hv)[i]? = (hv[i]?).map fun v=>(zR l i,v):=by
  intro i hi;obtain ⟨v,Sg⟩ : ∃ v,hv[i]? = some v:=⟨_,lge (by omega)⟩
  rw [Sg,(List.getElem?_zip_eq_some (z:=(zR l i,v))).2 (show ((l.take n).map (·.dst))[i]? = some (zR l i)∧hv[i]? = some v from ⟨by
   rw [List.getElem?_map,List.getElem?_take,if_pos hi];unfold zR;rw [lge (show i<l.length by omega)];rfl,Sg⟩)]
  rfl
 have Qv:(((l.take n).map (·.dst)).zip hv).Pairwise (fun p q => ∀ d,p.1=some d→q.1 ≠ some d):=by
  rw [List.pairwise_iff_getElem];intro p q hp hq Qo d' e1 e2;have QX:p<n:=by simp at hp;omega
  have Qx:q<n:=by simp at hq;omega
  have n1:=Pz p QX;have n2:=Pz q Qx;rw [lge hp,lge (show p<hv.length by omega)] at n1
  rw [lge hq,lge (show q<hv.length by omega)] at n2
  have n1':=osi n1;have n2':=osi n2;rw [n1'] at e1;rw [n2'] at e2;exact B.dist p q d' (by omega) (by omega) (by omega) e1 e2
 have Rt : ∀ i d v,i<n→zR l i=some d→hv[i]? = some v→(zKg (((l.take n).map (·.dst)).zip hv) a).tmps[d]? = some v:=by
  intro i d v hi hd Sg;refine zKh _ a d v (S9 i d (by omega) hd) Qv (List.mem_iff_getElem?.2 ⟨i,?_⟩)
  rw [Pz i hi,Sg,←hd];rfl
 refine wp_region_any hm ?_
 have hu : ∀ j,j<k → ∀ h,h<n→zR l h=some (u j)→hv[h]? = some (.agg (vs j)):=by
  intro j hj h hh hd;obtain ⟨v,Sg⟩ : ∃ v,hv[h]? = some v:=⟨_,lge (by omega)⟩
  have e1:=Rt h (u j) v hh hd Sg;have e2:=h2 j hj;rw [e1] at e2;rw [Sg,e2]
 have Rl:l.toArray.size=unl (Array.replicate (n+k+k) false):=by simp [unl,Om]
 have RC : ∀ i,(Array.replicate (n+k+k) false).getD i false=false:=fun i=>getD_replicate_false _ _;rw [show l.toArray.size=n+k+k by simp [Om]] at Rl ⊢
 refine zEJ B D h1 (fun i o v hi ho Sg p=>h4 i o v (by rw [List.getElem?_take,if_pos hi];exact ho) Sg p) S9 hu (W:=W) (sl:=sl) (T:=T) (z:=z) (vs:=vs) (hv:=hv) (a:=a) (fun s a' w' I h0=>?_) _ _ a _ Rl.symm
  ⟨by simp,rfl,rfl,fun x _=>rfl,fun i d v _ hs=>(by rw [RC] at hs;cases hs),⟨rfl,rfl,rfl,Nat.le_refl _,fun _ _=>rfl⟩,fun j _ hs=>(by rw [RC] at hs;cases hs),fun i j g _ _ _ hs=>(by rw [RC] at hs;cases hs),fun j _ hs=>(by rw [RC] at hs;cases hs)⟩
 have Jd : ∀ i,i<n+k+k→s.getD i false=true:=by
  intro i hi;rw [zN0 h0,I.size];simp [hi]
 have hg : ∀ j,∃ g,j<k→a'.tmps[sl j]? = some (.pointer (some ⟨g,0,none⟩))∧W.heap.size≤g∧Bk w' g (vs j) (T j):=by
  intro j;by_cases hj:j<k
  · obtain ⟨g,k1,k2,k3⟩:=I.al j hj (Jd _ (by omega))
    rw [if_pos (Jd _ (by omega))] at k3
    exact ⟨g,fun _=>⟨k1,k2,k3⟩⟩
  · exact ⟨0,fun h=>absurd h hj⟩
 have NE:=Classical.axiomOfChoice hg;obtain ⟨g,hg⟩:=NE
 have Ph : ∀ i j,i<k→j<k→i ≠ j→g i ≠ g j:=by
  intro i j hi hj Nq e;have e1:=(hg i hi).1;have e2:=(hg j hj).1;rw [←e] at e2;exact I.ne i j (g i) hi hj Nq (Jd _ (by omega)) (Jd _ (by omega)) e1 e2
 have Mp:=h3 g w' I.below (fun j hj=>(hg j hj).2) Ph
 have Ru:((List.range k).map fun j=>(some (sl j),Value.pointer (some (⟨g j,0,none⟩:Addr)))).Pairwise (fun p q => ∀ d,p.1=some d→q.1 ≠ some d):=by
  rw [List.pairwise_iff_getElem];intro p q hp hq Qo d' e1 e2;simp only [List.length_map,List.length_range] at hp hq;simp only [List.getElem_map,List.getElem_range] at e1 e2;obtain ⟨o1,b1,_,b2,_⟩:=D.al p hp;obtain ⟨o2,b3,_,b4,_⟩:=D.al q hq;exact B.dist (n+p) (n+q) d' (by omega) (by omega) (by omega) (by simp [zR,b1,b2];exact osi e1) (by simp [zR,b3,b4];exact osi e2)
 have Mc:a'=zKg ((List.range k).map fun j=>(some (sl j),Value.pointer (some ⟨g j,0,none⟩))) (zKg (((l.take n).map (·.dst)).zip hv) a):=by
  refine zAl ?_ fun x=>?_
  · rw [(zKj _ _).2,(zKj _ _).2];exact I.defers
  · by_cases hx : ∃ j,j<k∧sl j=x
    · obtain ⟨j,hj,rfl⟩:=hx;rw [(hg j hj).1];symm;refine zKh _ _ _ _ ?_ Ru (List.mem_map.2 ⟨j,List.mem_range.2 hj,rfl⟩);obtain ⟨o1,b1,_,b2,_⟩:=D.al j hj;rw [(zKj _ _).1];exact S9 (n+j) (sl j) (by omega) (by simp [zR,b1,b2])
    · rw [zKi _ _ x (fun p hp e=>by
       obtain ⟨j,hj,rfl⟩:=List.mem_map.1 hp;exact hx ⟨j,List.mem_range.1 hj,osi e⟩)]
      by_cases hd : ∃ i,i<n∧zR l i=some x
      · obtain ⟨i,hi,hd⟩:=hd;obtain ⟨v,Sg⟩ : ∃ v,hv[i]? = some v:=⟨_,lge (by omega)⟩
        rw [Rt i x v hi hd Sg];exact I.head i x v hi (Jd _ (by omega)) hd Sg
      · rw [zKi _ _ x (fun p hp e=>by
         obtain ⟨i,hi⟩:=List.mem_iff_getElem?.1 hp
         have hin:i<n:=by
          have:=(List.getElem?_eq_some_iff.1 hi).1;simp at this;omega
         rw [Pz i hin] at hi;obtain ⟨v,_,SQ⟩:=Option.map_eq_some_iff.1 hi;subst SQ;exact hd ⟨i,hin,e⟩)]
        refine I.old x fun i hs e=>?_
        have Nr:i<n+k+k:=by
         rw [←I.size];rcases Nat.lt_or_ge i s.size with h | h
         · exact h
         · simp [Array.getD_eq_getD_getElem?,Array.getElem?_eq_none h] at hs
        rcases Nat.lt_or_ge i n with hin | hin
        · exact hd ⟨i,hin,e⟩
        · rcases Nat.lt_or_ge i (n+k) with hik | hik
          · obtain ⟨j,rfl⟩ : ∃ j,i=n+j:=⟨i - n,by omega⟩
            obtain ⟨o1,b1,_,b2,_⟩:=D.al j (by omega)
            exact hx ⟨j,by omega,by simpa [zR,b1,b2] using e⟩
          · obtain ⟨j,rfl⟩ : ∃ j,i=n+k+j:=⟨i - (n+k),by omega⟩
            obtain ⟨o1,b1,_,b2,_⟩:=D.st j (by omega)
            simp [zR,b1,b2] at e
 rw [Mc];exact Mp
end
end
end Go.Proofs.YtfcbajmjaifjlaaGreat