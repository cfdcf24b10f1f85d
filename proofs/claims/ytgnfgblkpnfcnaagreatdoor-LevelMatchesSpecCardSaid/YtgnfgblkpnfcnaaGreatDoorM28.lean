/- Lsl, Lsz, Lpp, Lpk: joined by program, for one claim. -/
import Derived.Test.YtgnfgblkpnfcnaaGreatDoorM27
import Derived.Deep.DeepCutAuto
set_option maxHeartbeats 4000000
set_option maxRecDepth 100000
set_option linter.unusedVariables false
set_option linter.unusedSimpArgs false
namespace Go.Proofs.YtgnfgblkpnfcnaaGreatDoor
section
open Go.RowKit Go.Sort Go.Maps
open Oct
theorem zMV {L:List Mat} {c:Int} (h:c<0):zx L c=false:=by unfold zx;rw [show decide (0≤c)=false by simpa using h];rfl
theorem zMU {L:List Mat} {c:Int} (h:(L.length:Int)≤c):zx L c=false:=by unfold zx;rw [List.getElem?_eq_none (by omega)];simp
theorem zMT {L:List Mat} {i:Nat} {m:Mat} (h:L[i]? = some m):zx L (i:Int)=m.so:=by unfold zx;rw [Int.toNat_natCast,h];simp
theorem mat_at (ta:Option Addr) (tc:Nat) (L:List Mat) (c:Int) (hl:L.length≤1000000000) (w:World) (hT:SlM w ta L) :
 Calls Tryz.prog 112 #[.slice ta L.length tc,c] w fun e w' => ∃ m:Mat,e = .returned (.agg #[.string m.name,.bool m.so,.bool m.li,.bool m.fa,m.fade,m.e0,m.e1,m.e2])∧m.so=zx L c∧Below w.heap.size w w':=by
 by_cases h0:c<0
 · have t0:decide (c<0)=true:=by simpa using h0
   have hs:=Bx.mk (zMV (L:=L) h0);clear h0 hT hl;generalize L.length=n at *;go_enter Tryz.func112,Tryz.ntmps112;go_wp2_with fail;exact bodyPost_ret (v:=.agg #[.string ByteArray.empty,.bool false,.bool false,.bool false,(16:Int),(0:Int),(0:Int),(0:Int)]) (results_cell_row rfl _ _ w.heap.size 95 #[.string ByteArray.empty,.bool false,.bool false,.bool false,(16:Int),(0:Int),(0:Int),(0:Int)] (0,0) _ rfl (Bk.new _ _ _) Tryz.underlying95 rfl (by kernel_rfl)) rfl ⟨⟨ByteArray.empty,false,false,false,16,0,0,0⟩,rfl,hs.out.symm,(Below.refl _ _).alloc (Nat.le_refl _) _⟩
 have t0:decide (c<0)=false:=by simpa using h0
 by_cases h1:(L.length:Int)≤c
 · have t1:decide (c ≥ (L.length:Int))=true:=by simpa using h1
   have hs:=Bx.mk (zMU h1);clear h0 h1 hT hl;generalize L.length=n at *;go_enter Tryz.func112,Tryz.ntmps112;go_wp2_with fail;exact bodyPost_ret (v:=.agg #[.string ByteArray.empty,.bool false,.bool false,.bool false,(16:Int),(0:Int),(0:Int),(0:Int)]) (results_cell_row rfl _ _ w.heap.size 95 #[.string ByteArray.empty,.bool false,.bool false,.bool false,(16:Int),(0:Int),(0:Int),(0:Int)] (0,0) _ rfl (Bk.new _ _ _) Tryz.underlying95 rfl (by kernel_rfl)) rfl ⟨⟨ByteArray.empty,false,false,false,16,0,0,0⟩,rfl,hs.out.symm,(Below.refl _ _).alloc (Nat.le_refl _) _⟩
 have t1:decide (c ≥ (L.length:Int))=false:=by simpa using h1
 obtain ⟨i,rfl⟩ : ∃ i:Nat,c=(i:Int):=⟨c.toNat,by omega⟩
 have hi:i<L.length:=by omega
 obtain ⟨b,off,rfl,hc⟩:=hT i L[i] (List.getElem?_eq_getElem hi);have hs:=Bx.mk (zMT (List.getElem?_eq_getElem hi));have b1:(0:Int)≤(i:Int):=by omega
 have b2:(i:Int)<(L.length:Int):=by omega
 generalize L[i]=m at *;have d0 : ∀ o,(w.alloc o).cell? ⟨b,off+i * 8,none⟩=some (.string m.name):=fun o=>cell_later ((Below.refl _ _).alloc (Nat.le_refl _) _) (hc 0 _ rfl);have d1 : ∀ o,(w.alloc o).cell? ⟨b,off+i * 8+1,none⟩=some (.bool m.so):=fun o=>cell_later ((Below.refl _ _).alloc (Nat.le_refl _) _) (hc 1 _ rfl);have d2 : ∀ o,(w.alloc o).cell? ⟨b,off+i * 8+2,none⟩=some (.bool m.li):=fun o=>cell_later ((Below.refl _ _).alloc (Nat.le_refl _) _) (hc 2 _ rfl);have d3 : ∀ o,(w.alloc o).cell? ⟨b,off+i * 8+3,none⟩=some (.bool m.fa):=fun o=>cell_later ((Below.refl _ _).alloc (Nat.le_refl _) _) (hc 3 _ rfl);have d4 : ∀ o,(w.alloc o).cell? ⟨b,off+i * 8+4,none⟩=some (.int .i64 m.fade):=fun o=>cell_later ((Below.refl _ _).alloc (Nat.le_refl _) _) (hc 4 _ rfl);have d5 : ∀ o,(w.alloc o).cell? ⟨b,off+i * 8+5,none⟩=some (.int .i64 m.e0):=fun o=>cell_later ((Below.refl _ _).alloc (Nat.le_refl _) _) (hc 5 _ rfl);have d6 : ∀ o,(w.alloc o).cell? ⟨b,off+i * 8+6,none⟩=some (.int .i64 m.e1):=fun o=>cell_later ((Below.refl _ _).alloc (Nat.le_refl _) _) (hc 6 _ rfl);have d7 : ∀ o,(w.alloc o).cell? ⟨b,off+i * 8+7,none⟩=some (.int .i64 m.e2):=fun o=>cell_later ((Below.refl _ _).alloc (Nat.le_refl _) _) (hc 7 _ rfl);clear hi hT hc h0 h1;generalize L.length=n at *;go_enter Tryz.func112,Tryz.ntmps112;go_wp2_with fail;exact bodyPost_ret (v:=.agg #[.string m.name,.bool m.so,.bool m.li,.bool m.fa,m.fade,m.e0,m.e1,m.e2]) (results_cell_row rfl _ _ w.heap.size 95 #[.string m.name,.bool m.so,.bool m.li,.bool m.fa,m.fade,m.e0,m.e1,m.e2] (0,0) _ rfl (Bk.new _ _ _) Tryz.underlying95 rfl (by kernel_rfl)) rfl ⟨m,rfl,hs.out.symm,(Below.refl _ _).alloc (Nat.le_refl _) _⟩
theorem zHn (ta:Option Addr) (tc:Nat) (L:List Mat) (c:Int) (hl:L.length≤1000000000) (w:World) (hT:SlM w ta L) :
 Calls Tryz.prog 57 #[.slice ta L.length tc,c] w fun e w'=>e = .returned (.bool (zx L c))∧Below w.heap.size w w':=by
 have H:=Bx.mk (mat_at ta tc L c hl w hT);generalize zx L c=s at *;generalize L.length=n at *;clear hl hT;go_enter Tryz.func57,Tryz.ntmps57;go_wp2_with fail;refine H.out.mono ?_;rintro _ w1 ⟨m,rfl,hs,hb⟩;have HB:=Bx.mk hb;have hfd : ∀ W:World,(Instr.field 95 (.agg #[.string m.name,.bool m.so,.bool m.li,.bool m.fa,m.fade,m.e0,m.e1,m.e2]) 1).run Tryz.prog W = .ok (.bool s) W:=fun _=>by rw [←hs];kernel_rfl
 clear hb hs;go_wp2_with fail;go_ret;exact ⟨rfl,HB.out⟩
theorem ref_at (ta:Option Addr) (tc:Nat) (L:List Mat) (c:Int) (hl:L.length≤1000000000) (w:World) (hT:SlM w ta L) :
 Calls Tryz.prog 58 #[.slice ta L.length tc,c] w fun e w' => ∃ m:Mat,e = .returned (.agg #[.string m.name,.bool m.so,.bool m.li,.bool m.fa,m.fade,m.e0,m.e1,m.e2])∧m.so=zx L c∧Below w.heap.size w w':=by
 by_cases h0:c<0
 · have t0:decide (c<0)=true:=by simpa using h0
   have hs:=Bx.mk (zMV (L:=L) h0);clear h0 hT hl;generalize L.length=n at *;go_enter Tryz.func58,Tryz.ntmps58;go_wp2_with fail;exact bodyPost_ret (v:=.agg #[.string ByteArray.empty,.bool false,.bool false,.bool false,(16:Int),(0:Int),(0:Int),(0:Int)]) (results_cell_row rfl _ _ w.heap.size 95 #[.string ByteArray.empty,.bool false,.bool false,.bool false,(16:Int),(0:Int),(0:Int),(0:Int)] (0,0) _ rfl (Bk.new _ _ _) Tryz.underlying95 rfl (by kernel_rfl)) rfl ⟨⟨ByteArray.empty,false,false,false,16,0,0,0⟩,rfl,hs.out.symm,(Below.refl _ _).alloc (Nat.le_refl _) _⟩
 have t0:decide (c<0)=false:=by simpa using h0
 by_cases h1:(L.length:Int)≤c
 · have t1:decide (c ≥ (L.length:Int))=true:=by simpa using h1
   have hs:=Bx.mk (zMU h1);clear h0 h1 hT hl;generalize L.length=n at *;go_enter Tryz.func58,Tryz.ntmps58;go_wp2_with fail;exact bodyPost_ret (v:=.agg #[.string ByteArray.empty,.bool false,.bool false,.bool false,(16:Int),(0:Int),(0:Int),(0:Int)]) (results_cell_row rfl _ _ w.heap.size 95 #[.string ByteArray.empty,.bool false,.bool false,.bool false,(16:Int),(0:Int),(0:Int),(0:Int)] (0,0) _ rfl (Bk.new _ _ _) Tryz.underlying95 rfl (by kernel_rfl)) rfl ⟨⟨ByteArray.empty,false,false,false,16,0,0,0⟩,rfl,hs.out.symm,(Below.refl _ _).alloc (Nat.le_refl _) _⟩
 have t1:decide (c ≥ (L.length:Int))=false:=by simpa using h1
 obtain ⟨i,rfl⟩ : ∃ i:Nat,c=(i:Int):=⟨c.toNat,by omega⟩
 have hi:i<L.length:=by omega
 obtain ⟨b,off,rfl,hc⟩:=hT i L[i] (List.getElem?_eq_getElem hi);have hs:=Bx.mk (zMT (List.getElem?_eq_getElem hi));have b1:(0:Int)≤(i:Int):=by omega
 have b2:(i:Int)<(L.length:Int):=by omega
 generalize L[i]=m at *;have d0 : ∀ o,(w.alloc o).cell? ⟨b,off+i * 8,none⟩=some (.string m.name):=fun o=>cell_later ((Below.refl _ _).alloc (Nat.le_refl _) _) (hc 0 _ rfl);have d1 : ∀ o,(w.alloc o).cell? ⟨b,off+i * 8+1,none⟩=some (.bool m.so):=fun o=>cell_later ((Below.refl _ _).alloc (Nat.le_refl _) _) (hc 1 _ rfl);have d2 : ∀ o,(w.alloc o).cell? ⟨b,off+i * 8+2,none⟩=some (.bool m.li):=fun o=>cell_later ((Below.refl _ _).alloc (Nat.le_refl _) _) (hc 2 _ rfl);have d3 : ∀ o,(w.alloc o).cell? ⟨b,off+i * 8+3,none⟩=some (.bool m.fa):=fun o=>cell_later ((Below.refl _ _).alloc (Nat.le_refl _) _) (hc 3 _ rfl);have d4 : ∀ o,(w.alloc o).cell? ⟨b,off+i * 8+4,none⟩=some (.int .i64 m.fade):=fun o=>cell_later ((Below.refl _ _).alloc (Nat.le_refl _) _) (hc 4 _ rfl);have d5 : ∀ o,(w.alloc o).cell? ⟨b,off+i * 8+5,none⟩=some (.int .i64 m.e0):=fun o=>cell_later ((Below.refl _ _).alloc (Nat.le_refl _) _) (hc 5 _ rfl);have d6 : ∀ o,(w.alloc o).cell? ⟨b,off+i * 8+6,none⟩=some (.int .i64 m.e1):=fun o=>cell_later ((Below.refl _ _).alloc (Nat.le_refl _) _) (hc 6 _ rfl);have d7 : ∀ o,(w.alloc o).cell? ⟨b,off+i * 8+7,none⟩=some (.int .i64 m.e2):=fun o=>cell_later ((Below.refl _ _).alloc (Nat.le_refl _) _) (hc 7 _ rfl);clear hi hT hc h0 h1;generalize L.length=n at *;go_enter Tryz.func58,Tryz.ntmps58;go_wp2_with fail;exact bodyPost_ret (v:=.agg #[.string m.name,.bool m.so,.bool m.li,.bool m.fa,m.fade,m.e0,m.e1,m.e2]) (results_cell_row rfl _ _ w.heap.size 95 #[.string m.name,.bool m.so,.bool m.li,.bool m.fa,m.fade,m.e0,m.e1,m.e2] (0,0) _ rfl (Bk.new _ _ _) Tryz.underlying95 rfl (by kernel_rfl)) rfl ⟨m,rfl,hs.out.symm,(Below.refl _ _).alloc (Nat.le_refl _) _⟩
theorem zK2 (ta:Option Addr) (tc:Nat) (L:List Mat) (c:Int) (hl:L.length≤1000000000) (w:World) (hT:SlM w ta L) :
 Calls Tryz.prog 24 #[.slice ta L.length tc,c] w fun e w'=>e = .returned (.bool (zx L c))∧Below w.heap.size w w':=by
 have H:=Bx.mk (ref_at ta tc L c hl w hT);generalize zx L c=s at *;generalize L.length=n at *;clear hl hT;go_enter Tryz.func24,Tryz.ntmps24;go_wp2_with fail;refine H.out.mono ?_;rintro _ w1 ⟨m,rfl,hs,hb⟩;have HB:=Bx.mk hb;have hfd : ∀ W:World,(Instr.field 95 (.agg #[.string m.name,.bool m.so,.bool m.li,.bool m.fa,m.fade,m.e0,m.e1,m.e2]) 1).run Tryz.prog W = .ok (.bool s) W:=fun _=>by rw [←hs];kernel_rfl
 clear hb hs;go_wp2_with fail;go_ret;exact ⟨rfl,HB.out⟩
def lvV (d:Int):Int:=if 2≤d∧d≤14 then d - 1 else 0
def zMB (k:Int):Int:=if 0≤k∧k≤12 then 2 ^ k.toNat else 0
theorem zG5 (d:Int) (w:World):Calls Tryz.prog 19 #[d] w fun e w'=>e = .returned (.int .i64 (lvV d))∧w=w':=by
 unfold lvV;by_cases h0:d<2
 · have t0:decide (d<2)=true:=by simpa using h0
   rw [if_neg (by omega)]
   go_enter Tryz.func19,Tryz.ntmps19;go_wp2_with fail;go_ret;exact ⟨rfl,rfl⟩
 have t0:decide (d<2)=false:=by simpa using h0
 by_cases h1:14<d
 · have t1:decide (d > 14)=true:=by simpa using h1
   rw [if_neg (by omega)]
   go_enter Tryz.func19,Tryz.ntmps19;go_wp2_with fail;go_ret;exact ⟨rfl,rfl⟩
 have t1:decide (d > 14)=false:=by simpa using h1
 have hw:IntKind.i64.wrap (d - 1)=d - 1:=IntWalk.i64_in _ (by omega)
 rw [if_pos (by omega)]
 go_enter Tryz.func19,Tryz.ntmps19;go_wp2_with fail;go_ret;exact ⟨rfl,rfl⟩
theorem zHK (d:Int) (w:World):Calls Tryz.prog 20 #[d] w fun e w'=>e = .returned (.int .i64 (lvV d))∧w=w':=by
 unfold lvV;by_cases h0:d<2
 · have t0:decide (d<2)=true:=by simpa using h0
   rw [if_neg (by omega)]
   go_enter Tryz.func20,Tryz.ntmps20;go_wp2_with fail;go_ret;exact ⟨rfl,rfl⟩
 have t0:decide (d<2)=false:=by simpa using h0
 by_cases h1:14<d
 · have t1:decide (d > 14)=true:=by simpa using h1
   rw [if_neg (by omega)]
   go_enter Tryz.func20,Tryz.ntmps20;go_wp2_with fail;go_ret;exact ⟨rfl,rfl⟩
 have t1:decide (d > 14)=false:=by simpa using h1
 have hw:IntKind.i64.wrap (d - 1)=d - 1:=IntWalk.i64_in _ (by omega)
 rw [if_pos (by omega)]
 go_enter Tryz.func20,Tryz.ntmps20;go_wp2_with fail;go_ret;exact ⟨rfl,rfl⟩
theorem zHQ (k:Int) (w:World):Calls Tryz.prog 21 #[k] w fun e w'=>e = .returned (.int .i64 (zMB k))∧w=w':=by
 unfold zMB;by_cases h0:k<0
 · have t0:decide (k<0)=true:=by simpa using h0
   rw [if_neg (by omega)]
   go_enter Tryz.func21,Tryz.ntmps21;go_wp2_with fail;go_ret;exact ⟨rfl,rfl⟩
 have t0:decide (k<0)=false:=by simpa using h0
 by_cases h1:12<k
 · have t1:decide (k > 12)=true:=by simpa using h1
   rw [if_neg (by omega)]
   go_enter Tryz.func21,Tryz.ntmps21;go_wp2_with fail;go_ret;exact ⟨rfl,rfl⟩
 have t1:decide (k > 12)=false:=by simpa using h1
 rw [if_pos (by omega)]
 obtain ⟨n,rfl⟩ : ∃ n:Nat,k=(n:Int):=⟨k.toNat,by omega⟩
 have hp:IntKind.i64.wrap ((2:Int) ^ n)=2 ^ n:=zo (by omega)
 have hp1:(0:Int)≤(n:Int):=by omega
 have hw2:wrap64 (2 ^ n)=2 ^ n:=by rw [←IntWalk.i64_left];exact hp
 rw [Int.toNat_natCast];obtain ⟨m,hm⟩ : ∃ m,m=(2:Int) ^ n:=⟨_,rfl⟩;go_enter Tryz.func21,Tryz.ntmps21;go_wp2_with fail;go_ret;exact ⟨by first | rfl | rw [hp] | rw [hw2],rfl⟩
theorem zHO (k:Int) (w:World):Calls Tryz.prog 22 #[k] w fun e w'=>e = .returned (.int .i64 (zMB k))∧w=w':=by
 unfold zMB;by_cases h0:k<0
 · have t0:decide (k<0)=true:=by simpa using h0
   rw [if_neg (by omega)]
   go_enter Tryz.func22,Tryz.ntmps22;go_wp2_with fail;go_ret;exact ⟨rfl,rfl⟩
 have t0:decide (k<0)=false:=by simpa using h0
 by_cases h1:12<k
 · have t1:decide (k > 12)=true:=by simpa using h1
   rw [if_neg (by omega)]
   go_enter Tryz.func22,Tryz.ntmps22;go_wp2_with fail;go_ret;exact ⟨rfl,rfl⟩
 have t1:decide (k > 12)=false:=by simpa using h1
 rw [if_pos (by omega)]
 obtain ⟨n,rfl⟩ : ∃ n:Nat,k=(n:Int):=⟨k.toNat,by omega⟩
 have hn:n≤12:=by omega
 rw [Int.toNat_natCast];clear h0 h1;go_enter Tryz.func22,Tryz.ntmps22;go_wp2
 go_loop [3,4] (fun a i => ∃ j:Nat,j≤n∧i = .int .i64 j∧a = .int .i64 (2 ^ j)) (fun _ i=>n - (intOf i).toNat)
 case atStart=>exact ⟨0,Nat.zero_le _,rfl,rfl⟩
 case round =>
  obtain ⟨j,hj,rfl,rfl⟩:=hrel;by_cases hlt:j<n
  · have t2:decide ((j:Int)<(n:Int))=true:=by simpa using hlt
    have hm:IntKind.i64.wrap (2 * 2 ^ j)=2 ^ (j+1):=by rw [show (2:Int) * 2 ^ j=2 ^ (j+1) by rw [Int.pow_succ,Int.mul_comm]];exact zo (by omega)
    go_wp2;go_round
    case rel=>exact ⟨j+1,by omega,by go_num,rfl⟩
    case measure=>simp [intOf];omega
  · obtain rfl:j=n:=by omega
    have t2:decide ((j:Int)<(j:Int))=false:=by simp
    go_wp2;go_ret;exact ⟨rfl,rfl⟩
end
section
open Go.RowKit
open Oct
def l8 (p:Nat→Int):List Int:=(List.range 8).map p
theorem zGJ (p:Nat→Int):(l8 p).length=8:=by simp [l8]
theorem zGI (p:Nat→Int) {k:Nat} (hk:k<8):(l8 p)[k]? = some (p k):=by simp [l8,hk]
theorem zGM (p:Nat→Int) {k:Nat} (hk:k<8):(l8 p).take (k+1)=(l8 p).take k++[p k]:=by
 have h:=List.getElem?_eq_some_iff.1 (zGI p hk);rw [List.take_succ_eq_append_getElem h.1,h.2]
theorem zGE (p:Nat→Int):(l8 p).take 8=l8 p:=List.take_of_length_le (by rw [zGJ];exact Nat.le_refl _)
theorem zGK {p:Nat→Int} {k:Nat} (hk:k<8):p k∈l8 p:=List.mem_of_getElem? (zGI p hk)
def zAQ (s:Int→Bool) (l:List Int) (d:Int):Prop:=s d=decide (4≤l.countP s)
structure PickI (s:Int→Bool) (p:Nat→Int) (k:Nat) (best times:Int):Prop where
 le : ∀ d∈(l8 p).take k,zAQ s (l8 p) d→((l8 p).count d:Int)<times∨(((l8 p).count d:Int)=times∧best≤d)
 is:(times=0∧best=0 ∧ ∀ d∈(l8 p).take k,¬zAQ s (l8 p) d)∨(best∈l8 p∧zAQ s (l8 p) best∧times=((l8 p).count best:Int))
theorem PickI.start (s:Int→Bool) (p:Nat→Int):PickI s p 0 0 0:=⟨fun d h=>by simp at h,.inl ⟨rfl,rfl,fun d h=>by simp at h⟩⟩
theorem PickI.skip {s:Int→Bool} {p:Nat→Int} {k:Nat} {best times:Int} (h:PickI s p k best times) (hk:k<8) (hc : ¬zAQ s (l8 p) (p k)):PickI s p (k+1) best times:=by
 have key : ∀ d∈(l8 p).take (k+1),zAQ s (l8 p) d→d∈(l8 p).take k:=fun d hd hd'=>by
  rw [zGM p hk,List.mem_append,List.mem_singleton] at hd;rcases hd with hd | rfl
  · exact hd
  · exact absurd hd' hc
 refine ⟨fun d hd hd'=>h.le d (key d hd hd') hd',?_⟩;rcases h.is with ⟨h1,h2,h3⟩ | h
 · exact .inl ⟨h1,h2,fun d hd hd'=>h3 d (key d hd hd') hd'⟩
 · exact .inr h
theorem PickI.keep {s:Int→Bool} {p:Nat→Int} {k:Nat} {best times:Int} (h:PickI s p k best times) (hk:k<8) (hle : ¬(((l8 p).count (p k):Int) > times∨(((l8 p).count (p k):Int)=times∧p k<best))) (_hc:zAQ s (l8 p) (p k)):PickI s p (k+1) best times:=by
 have hpos:0<(l8 p).count (p k):=List.count_pos_iff.2 (zGK hk);refine ⟨fun d hd hd'=>?_,?_⟩
 · rw [zGM p hk,List.mem_append,List.mem_singleton] at hd;rcases hd with hd | rfl
   · exact h.le d hd hd'
   · omega
 · rcases h.is with ⟨h1,h2,h3⟩ | h
   · omega
   · exact .inr h
theorem PickI.take {s:Int→Bool} {p:Nat→Int} {k:Nat} {best times:Int} (h:PickI s p k best times) (hk:k<8) (hgt:((l8 p).count (p k):Int) > times∨(((l8 p).count (p k):Int)=times∧p k<best)) (hc:zAQ s (l8 p) (p k)):PickI s p (k+1) (p k) ((l8 p).count (p k):Int):=by
 refine ⟨fun d hd hd'=>?_,.inr ⟨zGK hk,hc,rfl⟩⟩;rw [zGM p hk,List.mem_append,List.mem_singleton] at hd;rcases hd with hd | rfl
 · have:=h.le d hd hd';omega
 · exact .inr ⟨rfl,Int.le_refl _⟩
theorem PickI.done {s:Int→Bool} {p:Nat→Int} {best times:Int} (h:PickI s p 8 best times):best=zJj s (l8 p):=by
 obtain ⟨d,hd,hc⟩:=zJp s (zGJ p);rcases h.is with ⟨_,_,h3⟩ | ⟨h1,h2,h3⟩
 · exact absurd hc (h3 d (by rw [zGE];exact hd))
 · refine zJl (zGJ p) ⟨h1,h2,fun e he hce=>?_⟩;have:=h.le e (by rw [zGE];exact he) hce
   omega
structure PickR (s:Int→Bool) (p:Nat→Int) (c:Nat) (best times:Int):Prop where
 le : ∀ d:Nat,d<c→zAQ s (l8 p) d→((l8 p).count (d:Int):Int)<times∨(((l8 p).count (d:Int):Int)=times∧(times=0∨best≤d))
 is:times=0∨(best∈l8 p∧zAQ s (l8 p) best∧times=((l8 p).count best:Int))
 lo:0≤times
 up:times=0∨best<c
theorem PickR.start (s:Int→Bool) (p:Nat→Int):PickR s p 0 (-1) 0:=⟨fun d h=>by omega,.inl rfl,Int.le_refl _,.inl rfl⟩
theorem PickR.keep {s:Int→Bool} {p:Nat→Int} {c:Nat} {best times:Int} (h:PickR s p c best times) (hle : ¬(((l8 p).count (c:Int):Int) > times∧zAQ s (l8 p) c)):PickR s p (c+1) best times:=by
 refine ⟨fun d hd hc=>?_,h.is,h.lo,by have:=h.up;omega⟩
 by_cases e:d=c
 · subst e;have h1 : ¬((l8 p).count (d:Int):Int) > times:=fun h1=>hle ⟨h1,hc⟩;have:=h.up;omega
 · exact h.le d (by omega) hc
theorem PickR.take {s:Int→Bool} {p:Nat→Int} {c:Nat} {best times:Int} (h:PickR s p c best times) (hgt:((l8 p).count (c:Int):Int) > times) (hc:zAQ s (l8 p) c):PickR s p (c+1) c ((l8 p).count (c:Int):Int):=by
 have hlo:=h.lo;have hm:(c:Int)∈l8 p:=List.count_pos_iff.1 (by omega)
 refine ⟨fun d hd hcd=>?_,.inr ⟨hm,hc,rfl⟩,by omega,.inr (by omega)⟩
 by_cases e:d=c
 · subst e;exact .inr ⟨rfl,.inr (Int.le_refl _)⟩
 · have:=h.le d (by omega) hcd;omega
theorem PickR.done {s:Int→Bool} {p:Nat→Int} {best times:Int} (h:PickR s p 256 best times) (hp : ∀ k,k<8→0≤p k∧p k≤255):best=zJj s (l8 p):=by
 have hr : ∀ d∈l8 p,∃ n:Nat,d=(n:Int)∧n<256:=fun d hd=>by
  obtain ⟨k,hk,rfl⟩:=List.mem_map.1 hd;have:=hp k (List.mem_range.1 hk);exact ⟨(p k).toNat,by omega,by omega⟩
 obtain ⟨d,hd,hc⟩:=zJp s (zGJ p);have hpos:0<(l8 p).count d:=List.count_pos_iff.2 hd;rcases h.is with h0 | ⟨h1,h2,h3⟩
 · obtain ⟨n,rfl,hn⟩:=hr d hd;have:=h.le n hn hc;omega
 · have hb:0<(l8 p).count best:=List.count_pos_iff.2 h1;refine zJl (zGJ p) ⟨h1,h2,fun e he hce=>?_⟩;obtain ⟨n,rfl,hn⟩:=hr e he;have:=h.le n hn hce;omega
end
section
open Go.RowKit Go.Sort Go.Maps
open Oct
theorem zG4 (p:Nat→Int) (k:Nat) (hk:k<8) (W:World):(Instr.index 54 (.agg #[.int .i64 (p 0),.int .i64 (p 1),.int .i64 (p 2),.int .i64 (p 3),.int .i64 (p 4),.int .i64 (p 5),.int .i64 (p 6),.int .i64 (p 7)]) (.int .i64 (k:Int))).run Tryz.prog W = .ok (.int .i64 (p k)) W:=by
 have hu:=Tryz.underlying54;have h1 : Tryz.prog.cellsOf 3=1:=by kernel_rfl
 have hc:(#[.int .i64 (p 0),.int .i64 (p 1),.int .i64 (p 2),.int .i64 (p 3),.int .i64 (p 4),.int .i64 (p 5),.int .i64 (p 6),.int .i64 (p 7)]:Array Value)[k]? = some (.int .i64 (p k)):=by
  have h0:k=0∨k=1∨k=2∨k=3∨k=4∨k=5∨k=6∨k=7:=by omega
  rcases h0 with rfl | rfl | rfl | rfl | rfl | rfl | rfl | rfl <;> rfl
 have h0:(0:Int)≤(k:Int)∧(k:Int)<8:=by omega
 generalize (#[.int .i64 (p 0),.int .i64 (p 1),.int .i64 (p 2),.int .i64 (p 3),.int .i64 (p 4),.int .i64 (p 5),.int .i64 (p 6),.int .i64 (p 7)]:Array Value)=cs at *;simp [Instr.index,run_underlying hu,asIntOf,h0,go_sem];rw [if_pos hk,hc];rfl
theorem zGG (s:Int→Bool) (p:Nat→Int) {k:Nat} (hk:k<8):((l8 p).take (k+1)).countP s=((l8 p).take k).countP s+if s (p k)=true then 1 else 0:=by
 rw [zGM p hk,List.countP_append,List.countP_cons,List.countP_nil,Nat.zero_add]
theorem zGF (p:Nat→Int) (c:Int) {k:Nat} (hk:k<8):((l8 p).take (k+1)).count c=((l8 p).take k).count c+if (p k == c)=true then 1 else 0:=by
 rw [zGM p hk,List.count_append,List.count_cons,List.count_nil,Nat.zero_add]
theorem zG8 (ta:Option Addr) (tc:Nat) (L:List Mat) (p:Nat→Int) (hl:L.length≤1000000000) (w:World) (hT:SlM w ta L) :
 Calls Tryz.prog 23 #[.slice ta L.length tc,.agg #[.int .i64 (p 0),.int .i64 (p 1),.int .i64 (p 2),.int .i64 (p 3),.int .i64 (p 4),.int .i64 (p 5),.int .i64 (p 6),.int .i64 (p 7)]] w fun e w'=>e = .returned (.int .i64 (zJj (zx L) (l8 p)))∧Below w.heap.size w w':=by
 have HS:=Bx.mk fun W (hb:Below w.heap.size w W) c=>zHn ta tc L c hl W (hT.below hb);generalize zx L=s at *;generalize L.length=nl at *;clear hT hl;go_enter Tryz.func23,Tryz.ntmps23;go_upto_region 1 with fail;generalize hW:World.alloc w _=W;have HB:=Bx.mk (show Below w.heap.size w W by rw [←hW];exact (Below.refl _ _).alloc (Nat.le_refl _) _)
 have KB:=Bx.mk (show Bk W w.heap.size #[.int .i64 (p 0),.int .i64 (p 1),.int .i64 (p 2),.int .i64 (p 3),.int .i64 (p 4),.int .i64 (p 5),.int .i64 (p 6),.int .i64 (p 7)] 54 by rw [←hW];exact zD _ _ _ rfl)
 clear hW;obtain ⟨c0,c1,c2,c3,c4,c5,c6,c7⟩:=KB.out.c8;go_wp2_with fail;clear c0 c1 c2 c3 c4 c5 c6 c7
 go_loopw [5,16] (fun v5 v16 wr => ∃ k:Nat,k≤8∧v16 = .int .i64 k∧v5 = .int .i64 (((l8 p).take k).countP s:Nat)∧Bx (Below w.heap.size w wr∧Bk wr w.heap.size #[.int .i64 (p 0),.int .i64 (p 1),.int .i64 (p 2),.int .i64 (p 3),.int .i64 (p 4),.int .i64 (p 5),.int .i64 (p 6),.int .i64 (p 7)] 54)) (fun _ i _=>8 - (intOf i).toNat)
 case atStart=>exact ⟨0,Nat.zero_le _,rfl,by simp,⟨HB.out,KB.out⟩⟩
 case round =>
  obtain ⟨k,hk,rfl,rfl,HI⟩:=hrel;clear HB KB;by_cases hlt:k<8
  · have t0:decide ((k:Int)<8)=true:=by simp;omega
    have hix:=zG4 p k hlt;have hcp:=zGG s p hlt;have hle:=List.countP_le_length (p:=s) (l:=(l8 p).take k);rw [List.length_take,zGJ] at hle;obtain ⟨c1,hc1⟩ : ∃ c1,((l8 p).take (k+1)).countP s=c1:=⟨_,rfl⟩;have HCP:=Bx.mk hc1;rw [hc1] at hcp;clear hc1;generalize ((l8 p).take k).countP s=c0 at *;go_wp2_with fail;refine (HS.out _ HI.out.1 (p k)).mono ?_;rintro _ w2 ⟨rfl,hb⟩;have HI2:=Bx.mk (show Below w.heap.size w w2∧Bk w2 w.heap.size #[.int .i64 (p 0),.int .i64 (p 1),.int .i64 (p 2),.int .i64 (p 3),.int .i64 (p 4),.int .i64 (p 5),.int .i64 (p 6),.int .i64 (p 7)] 54 from ⟨HI.out.1.trans (hb.mono HI.out.1.size),HI.out.2.later hb⟩);clear hb HI;cases hs:s (p k) with
    | true =>
      rw [if_pos hs] at hcp;have hw:IntKind.i64.wrap ((c0:Int)+1)=(c1:Int):=by rw [show (c0:Int)+1=(c1:Int) by omega];exact IntWalk.i64_in _ (by omega)
      have HQ:=Bx.mk hcp;clear hle hs hcp;go_wp2_with fail
      go_roundw
      case rel=>exact ⟨k+1,by omega,by go_num,by rw [HCP.out];try exact congrArg _ (by have:=HQ.out;omega),HI2⟩
      case measure=>simp [intOf];omega
    | false =>
      rw [if_neg (by rw [hs];decide)] at hcp
      have HQ:=Bx.mk hcp;clear hle hs hcp;go_wp2_with fail
      go_roundw
      case rel=>exact ⟨k+1,by omega,by go_num,by rw [HCP.out];try exact congrArg _ (by have:=HQ.out;omega),HI2⟩
      case measure=>simp [intOf];omega
  · have hk8:((k:Nat):Int)=8:=by omega
    rw [hk8];obtain rfl:k=8:=by omega
    clear hk8;have t0:decide ((8:Int)<8)=false:=by decide
    rw [zGE];obtain ⟨g4,hg4⟩ : ∃ g,g=decide (4≤(l8 p).countP s):=⟨_,rfl⟩;obtain ⟨tot,htot⟩ : ∃ t:Nat,t=(l8 p).countP s:=⟨_,rfl⟩;rw [←htot];have hge:decide ((tot:Int) ≥ 4)=g4:=by rw [hg4,←htot,Bool.eq_iff_iff];simp;omega
    have HG:=Bx.mk hg4;clear hg4 htot;obtain ⟨c0,c1,c2,c3,c4,c5,c6,c7⟩:=HI.out.2.c8;go_wp2_with fail;clear c0 c1 c2 c3 c4 c5 c6 c7
    go_loopw [8,9,26] (fun v8 v9 v26 wr => ∃ k:Nat,∃ best times:Int,k≤8∧v26 = .int .i64 k∧v8 = .int .i64 best∧v9 = .int .i64 times∧Bx (PickI s p k best times∧Below w.heap.size w wr∧Bk wr w.heap.size #[.int .i64 (p 0),.int .i64 (p 1),.int .i64 (p 2),.int .i64 (p 3),.int .i64 (p 4),.int .i64 (p 5),.int .i64 (p 6),.int .i64 (p 7)] 54)) (fun _ _ i _=>8 - (intOf i).toNat)
    case atStart=>exact ⟨0,0,0,Nat.zero_le _,rfl,rfl,rfl,⟨PickI.start s p,HI.out.1,HI.out.2⟩⟩
    case round =>
     obtain ⟨k,best,times,hk,rfl,rfl,rfl,HJ⟩:=hrel;clear HI t0;by_cases hlt:k<8
     · have t0:decide ((k:Int)<8)=true:=by simp;omega
       have hix:=zG4 p k hlt;go_wp2_with fail;refine (HS.out _ HJ.out.2.1 (p k)).mono ?_;rintro _ w2 ⟨rfl,hb⟩;have HJ2:=Bx.mk (show PickI s p k best times∧Below w.heap.size w w2∧Bk w2 w.heap.size #[.int .i64 (p 0),.int .i64 (p 1),.int .i64 (p 2),.int .i64 (p 3),.int .i64 (p 4),.int .i64 (p 5),.int .i64 (p 6),.int .i64 (p 7)] 54 from ⟨HJ.out.1,HJ.out.2.1.trans (hb.mono HJ.out.2.1.size),HJ.out.2.2.later hb⟩);clear hb HJ;by_cases hc:s (p k)=g4
       · have hn:(s (p k) == g4)=true:=by rw [hc];simp
         have HC:=Bx.mk (show zAQ s (l8 p) (p k) by unfold zAQ;rw [hc,HG.out])
         clear hc;obtain ⟨c0,c1,c2,c3,c4,c5,c6,c7⟩:=HJ2.out.2.2.c8;go_wp2_with fail;clear c0 c1 c2 c3 c4 c5 c6 c7
         go_loopw [12,36] (fun v12 v36 wr => ∃ j:Nat,j≤8∧v36 = .int .i64 j∧v12 = .int .i64 (((l8 p).take j).count (p k):Nat)∧Bx (Below w.heap.size w wr∧Bk wr w.heap.size #[.int .i64 (p 0),.int .i64 (p 1),.int .i64 (p 2),.int .i64 (p 3),.int .i64 (p 4),.int .i64 (p 5),.int .i64 (p 6),.int .i64 (p 7)] 54)) (fun _ i _=>8 - (intOf i).toNat)
         case atStart=>exact ⟨0,Nat.zero_le _,rfl,by simp,⟨HJ2.out.2.1,HJ2.out.2.2⟩⟩
         case round =>
          obtain ⟨j,hj,rfl,rfl,HI⟩:=hrel;by_cases hjl:j<8
          · have t1:decide ((j:Int)<8)=true:=by simp;omega
            have hjx:=zG4 p j hjl;have hcp:=zGF p (p k) hjl;have hle:=List.count_le_length (a:=p k) (l:=(l8 p).take j);rw [List.length_take,zGJ] at hle;obtain ⟨c1,hc1⟩ : ∃ c1,((l8 p).take (j+1)).count (p k)=c1:=⟨_,rfl⟩;have HCP:=Bx.mk hc1;rw [hc1] at hcp;clear hc1;generalize ((l8 p).take j).count (p k)=c0 at *;cases he:(p j == p k) with
            | true =>
              rw [if_pos he] at hcp;have hw:IntKind.i64.wrap ((c0:Int)+1)=(c1:Int):=by rw [show (c0:Int)+1=(c1:Int) by omega];exact IntWalk.i64_in _ (by omega)
              have HQ:=Bx.mk hcp;clear hle hix hcp;go_wp2_with fail
              go_roundw
              case rel=>exact ⟨j+1,by omega,by go_num,by rw [HCP.out];try exact congrArg _ (by have:=HQ.out;omega),HI⟩
              case measure=>simp [intOf];omega
            | false =>
              rw [if_neg (by rw [he];decide)] at hcp
              have HQ:=Bx.mk hcp;clear hle hix hcp;go_wp2_with fail
              go_roundw
              case rel=>exact ⟨j+1,by omega,by go_num,by rw [HCP.out];try exact congrArg _ (by have:=HQ.out;omega),HI⟩
              case measure=>simp [intOf];omega
          · have hj8:((j:Nat):Int)=8:=by omega
            rw [hj8];obtain rfl:j=8:=by omega
            clear hj8;have t1:decide ((8:Int)<8)=false:=by decide
            rw [zGE];have HK:=Bx.mk HJ2.out.1;clear HJ2 hix;have HN:=Bx.mk (show (((l8 p).count (p k):Nat):Int)=(((l8 p).count (p k):Nat):Int) from rfl);obtain ⟨cn,hcn⟩ : ∃ cn:Nat,cn=(l8 p).count (p k):=⟨_,rfl⟩;rw [←hcn];have HCN:=Bx.mk hcn;clear hcn HN;by_cases h1:(cn:Int) > times
            · have t2:decide ((cn:Int) > times)=true:=by simpa using h1
              have HR:=Bx.mk (PickI.take HK.out hlt (.inl (by rw [←HCN.out];exact h1)) HC.out)
              clear h1;go_wp2_with fail
              go_roundw
              case rel=>exact ⟨k+1,p k,cn,by omega,by go_num,rfl,rfl,⟨by have:=HR.out;rwa [←HCN.out] at this,HI.out.1,HI.out.2⟩⟩
              case measure=>simp [intOf];omega
            have t2:decide ((cn:Int) > times)=false:=by simpa using h1
            by_cases h2:(cn:Int)=times
            · have t3:((cn:Int) == times)=true:=by simpa using h2
              by_cases h3:p k<best
              · have t4:decide (p k<best)=true:=by simpa using h3
                have HR:=Bx.mk (PickI.take HK.out hlt (.inr ⟨by rw [←HCN.out];exact h2,h3⟩) HC.out)
                clear h1 h2 h3;go_wp2_with fail
                go_roundw
                case rel=>exact ⟨k+1,p k,cn,by omega,by go_num,rfl,rfl,⟨by have:=HR.out;rwa [←HCN.out] at this,HI.out.1,HI.out.2⟩⟩
                case measure=>simp [intOf];omega
              · have t4:decide (p k<best)=false:=by simpa using h3
                have HR:=Bx.mk (PickI.keep HK.out hlt (by rw [←HCN.out];exact fun h=>h.elim h1 fun h=>h3 h.2) HC.out)
                clear h1 h2 h3;go_wp2_with fail
                go_roundw
                case rel=>exact ⟨k+1,best,times,by omega,by go_num,rfl,rfl,⟨HR.out,HI.out.1,HI.out.2⟩⟩
                case measure=>simp [intOf];omega
            · have t3:((cn:Int) == times)=false:=by simpa using h2
              have HR:=Bx.mk (PickI.keep HK.out hlt (by rw [←HCN.out];exact fun h=>h.elim h1 fun h=>h2 h.1) HC.out)
              clear h1 h2;go_wp2_with fail
              go_roundw
              case rel=>exact ⟨k+1,best,times,by omega,by go_num,rfl,rfl,⟨HR.out,HI.out.1,HI.out.2⟩⟩
              case measure=>simp [intOf];omega
       · have hn:(s (p k) == g4)=false:=by simpa using hc
         have HR:=Bx.mk (PickI.skip HJ2.out.1 hlt (by unfold zAQ;rw [←HG.out];exact hc))
         clear hc;go_wp2_with fail
         go_roundw
         case rel=>exact ⟨k+1,best,times,by omega,by go_num,rfl,rfl,⟨HR.out,HJ2.out.2.1,HJ2.out.2.2⟩⟩
         case measure=>simp [intOf];omega
     · obtain rfl:k=8:=by omega
       have t0:decide (((8:Nat):Int)<8)=false:=by decide
       have HR:=Bx.mk (PickI.done HJ.out.1);go_wp2_with fail;go_ret;exact ⟨by rw [HR.out];rfl,HJ.out.2.1⟩
end
end Go.Proofs.YtgnfgblkpnfcnaaGreatDoor
