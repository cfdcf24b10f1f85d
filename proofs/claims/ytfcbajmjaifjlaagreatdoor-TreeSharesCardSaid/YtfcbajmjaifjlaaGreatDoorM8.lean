/- Whl, Grd1, Sl, Brk, Brk2, Cel, Str, Get: joined by program, for one claim. -/
import Derived.Test.YtfcbajmjaifjlaaGreatDoorM7
import Derived.Deep.QuietTactic
import Derived.Laws.IdiomStrings
set_option maxHeartbeats 1000000
set_option maxRecDepth 100000
set_option linter.unusedVariables false
set_option linter.unusedSimpArgs false
section
namespace Go.Proofs.YtfcbajmjaifjlaaGreatDoor
open Go.RowKit Go.Sort Go.Maps
open Oct
structure Done (Far:Nat→Prop) (sb:Nat) (most:Int) (ts ts':List Tr) (t:Tr) (w:World) (e:Ending) (w':World):Prop where
 keeps:Keeps Far w w'
 size:w.heap.size≤w'.heap.size
 way:(Tr.Fits most ts ts'∧e=zAv (idT ts' t:Int) 0∧StoreIs w' Far sb most ts')∨(¬Tr.Fits most ts ts'∧e=zAv 0 14∧StoreIs w' Far sb most ts)
theorem zD6 (w:World) (Far:Nat→Prop) (sb:Nat) (most:Int) (ts ts':List Tr) (t:Tr) (p0 p1:Addr) (hgr : ∀ vs,ts <+: vs→vs <+: ts'→Good vs) (hlen:ts'.length≤1000000000000) (hS:StoreIs w Far sb most ts)
 (hf:Calls Tryz.prog 90 #[.pointer (some p0),.pointer (some p1)] w (Grew Far sb most ts ts' t w)) :
 Calls Tryz.prog 52 #[.pointer (some ⟨sb,0,none⟩),.func (.func 90) #[] #[.pointer (some p0),.pointer (some p1)]] w (Done Far sb most ts ts' t w):=by
 obtain ⟨mb,nv,ks,hrow,-,-⟩:=hS.parts;obtain ⟨na,nc,rfl⟩:=zk hrow;have cs1:=ks.cell 1 rfl;have hf:=Bx.mk hf;have hgr:=Bx.mk hgr;clear hrow ks hS;go_enter Tryz.func52,Tryz.ntmps52;go_wp2_with fail;refine hf.out.mono ?_;rintro e w1 hg;have hk:=Bx.mk hg.keeps;have hz:=Bx.mk hg.size;obtain ⟨-,-,(⟨hfit,rfl,hs⟩ | ⟨hfit,rfl,us,hu1,hu2,hu3,hs⟩)⟩:=hg
 · have hd:Done Far sb most ts ts' t w (zAv (idT ts' t:Int) 0) w1:=⟨hk.out,hz.out,.inl ⟨hfit,rfl,hs⟩⟩;clear hs hfit cs1 hf;go_wp2_with fail
   go_ret2
   exact hd
 · have hl:=hu3.length_le;have htrim:=Bx.mk (zEV w1 Far sb most ts us hu2 (fun vs h1 h2=>hgr.out vs h1 (h2.trans hu3)) (by omega) hs)
   have hfit:=Bx.mk hfit;clear hs cs1 hf hu1 hu2 hu3 hl;go_wp2_with fail;refine htrim.out.mono ?_;rintro e w2 ⟨rfl,hs2,hk2⟩;have hd:Done Far sb most ts ts' t w (zAv 0 14) w2:=⟨hk.out.trans hk2,Nat.le_trans hz.out hk2.size,.inr ⟨hfit.out,rfl,hs2⟩⟩;clear hs2 hk2 htrim hfit;go_wp2_with fail
   go_ret2
   exact hd
theorem zIx (w:World) (Far:Nat→Prop) (sb:Nat) (most:Int) (ts ts':List Tr) (t:Tr) (p0 p1 p2:Addr) (hgr : ∀ vs,ts <+: vs→vs <+: ts'→Good vs) (hlen:ts'.length≤1000000000000) (hS:StoreIs w Far sb most ts)
 (hf:Calls Tryz.prog 53 #[.pointer (some p0),.pointer (some p1),.pointer (some p2)] w (Grew Far sb most ts ts' t w)) :
 Calls Tryz.prog 52 #[.pointer (some ⟨sb,0,none⟩),.func (.func 53) #[] #[.pointer (some p0),.pointer (some p1),.pointer (some p2)]] w (Done Far sb most ts ts' t w):=by
 obtain ⟨mb,nv,ks,hrow,-,-⟩:=hS.parts;obtain ⟨na,nc,rfl⟩:=zk hrow;have cs1:=ks.cell 1 rfl;have hf:=Bx.mk hf;have hgr:=Bx.mk hgr;clear hrow ks hS;go_enter Tryz.func52,Tryz.ntmps52;go_wp2_with fail;refine hf.out.mono ?_;rintro e w1 hg;have hk:=Bx.mk hg.keeps;have hz:=Bx.mk hg.size;obtain ⟨-,-,(⟨hfit,rfl,hs⟩ | ⟨hfit,rfl,us,hu1,hu2,hu3,hs⟩)⟩:=hg
 · have hd:Done Far sb most ts ts' t w (zAv (idT ts' t:Int) 0) w1:=⟨hk.out,hz.out,.inl ⟨hfit,rfl,hs⟩⟩;clear hs hfit cs1 hf;go_wp2_with fail
   go_ret2
   exact hd
 · have hl:=hu3.length_le;have htrim:=Bx.mk (zEV w1 Far sb most ts us hu2 (fun vs h1 h2=>hgr.out vs h1 (h2.trans hu3)) (by omega) hs)
   have hfit:=Bx.mk hfit;clear hs cs1 hf hu1 hu2 hu3 hl;go_wp2_with fail;refine htrim.out.mono ?_;rintro e w2 ⟨rfl,hs2,hk2⟩;have hd:Done Far sb most ts ts' t w (zAv 0 14) w2:=⟨hk.out.trans hk2,Nat.le_trans hz.out hk2.size,.inr ⟨hfit.out,rfl,hs2⟩⟩;clear hs2 hk2 htrim hfit;go_wp2_with fail
   go_ret2
   exact hd
end Go.Proofs.YtfcbajmjaifjlaaGreatDoor
namespace Go.Proofs.YtfcbajmjaifjlaaGreatDoor
open Go.RowKit Go.Sort
theorem zLb (a b c d e f:Int):okB ⟨⟨a,b,c⟩,⟨d,e,f⟩⟩=[a,b,c,d,e,f].all okC:=by simp [okB,okP,Bool.and_assoc]
theorem zCz (c:Int) (w:World) :
 Calls Tryz.prog 136 #[c] w fun e w'=>e = .returned (.bool (decide (0≤c∧c≤255)))∧w=w':=by
 go_enter Tryz.func136,Tryz.ntmps136;go_wp2
 all_goals
  go_ret;exact ⟨zK (by rw [Bool.eq_iff_iff];simp;omega),rfl⟩
theorem zHd (c:Int) (w:World) :
 Calls Tryz.prog 135 #[c] w fun e w'=>e = .returned (.bool (!decide (0≤c∧c≤255)))∧w=w':=by
 have hm:=Bx.mk (zCz c);generalize decide (0≤c∧c≤255)=r at *;go_enter Tryz.func135,Tryz.ntmps135;go_wp2_with fail;refine (hm.out _).mono ?_;rintro e w1 ⟨rfl,rfl⟩;go_wp2;go_ret;exact ⟨rfl,rfl⟩
theorem zEG (a b c d e f:Int) (w:World) :
 Calls Tryz.prog 133 #[.agg #[a,b,c,d,e,f]] w fun e' w'=>e' = .returned (.bool (okB ⟨⟨a,b,c⟩,⟨d,e,f⟩⟩))∧Below w.heap.size w w':=by
 have hl:=Bx.mk (zLb a b c d e f);go_enter Tryz.func133,Tryz.ntmps133;go_wp2_with fail;generalize hW:World.alloc w _=W;have hSz:=sz1 hW;have hB:=bl1 hW;have kb:Bk W (w.heap.size) #[a,b,c,d,e,f] 25:=bk0 hW;clear hW
 go_loopw [24] (fun i wr => ∃ k:Nat,k≤6∧i = .int .i64 k∧([a,b,c,d,e,f].take k).all okC=true∧wr=W) (fun i _=>6 - (intOf i).toNat)
 case atStart=>exact ⟨0,by omega,rfl,by simp,rfl⟩
 case round =>
  obtain ⟨k,hk,hi,hall,rfl⟩:=hrel;have Hall:=Bx.mk hall;clear hall;by_cases hlt:k<6
  · obtain rfl | rfl | rfl | rfl | rfl | rfl:k=0∨k=1∨k=2∨k=3∨k=4∨k=5:=by omega
    · replace hi:_=Value.int .i64 0:=hi;subst hi;have hix : ∀ w,(Instr.index 183 (.agg #[a,b,c,d,e,f]) (.int .i64 0)).run Tryz.prog w = .ok (.int .i64 a) w:=fun _=>by kernel_rfl
      by_cases hlo:a < -1048575
      · have hf:Bx (okB ⟨⟨a,b,c⟩,⟨d,e,f⟩⟩=false):=⟨by rw [hl.out];simp [okC];omega⟩
        go_wp2_with fail;go_ret;exact ⟨zK hf.out.symm,hB⟩
      · by_cases hhi:1048575<a
        · have hf:Bx (okB ⟨⟨a,b,c⟩,⟨d,e,f⟩⟩=false):=⟨by rw [hl.out];simp [okC];omega⟩
          go_wp2_with fail;go_ret;exact ⟨zK hf.out.symm,hB⟩
        · have hn:Bx (([a,b,c,d,e,f].take 1).all okC=true):=⟨by have:=Hall.out;simp [okC] at this ⊢; omega⟩
          go_wp2_with fail
          go_roundw
          case rel=>exact ⟨1,by omega,by go_num,hn.out,by trivial⟩
          case measure=>simp [intOf]
    · replace hi:_=Value.int .i64 1:=hi;subst hi;have hix : ∀ w,(Instr.index 183 (.agg #[a,b,c,d,e,f]) (.int .i64 1)).run Tryz.prog w = .ok (.int .i64 b) w:=fun _=>by kernel_rfl
      by_cases hlo:b < -1048575
      · have hf:Bx (okB ⟨⟨a,b,c⟩,⟨d,e,f⟩⟩=false):=⟨by rw [hl.out];simp [okC];omega⟩
        go_wp2_with fail;go_ret;exact ⟨zK hf.out.symm,hB⟩
      · by_cases hhi:1048575<b
        · have hf:Bx (okB ⟨⟨a,b,c⟩,⟨d,e,f⟩⟩=false):=⟨by rw [hl.out];simp [okC];omega⟩
          go_wp2_with fail;go_ret;exact ⟨zK hf.out.symm,hB⟩
        · have hn:Bx (([a,b,c,d,e,f].take 2).all okC=true):=⟨by have:=Hall.out;simp [okC] at this ⊢; omega⟩
          go_wp2_with fail
          go_roundw
          case rel=>exact ⟨2,by omega,by go_num,hn.out,by trivial⟩
          case measure=>simp [intOf]
    · replace hi:_=Value.int .i64 2:=hi;subst hi;have hix : ∀ w,(Instr.index 183 (.agg #[a,b,c,d,e,f]) (.int .i64 2)).run Tryz.prog w = .ok (.int .i64 c) w:=fun _=>by kernel_rfl
      by_cases hlo:c < -1048575
      · have hf:Bx (okB ⟨⟨a,b,c⟩,⟨d,e,f⟩⟩=false):=⟨by rw [hl.out];simp [okC];omega⟩
        go_wp2_with fail;go_ret;exact ⟨zK hf.out.symm,hB⟩
      · by_cases hhi:1048575<c
        · have hf:Bx (okB ⟨⟨a,b,c⟩,⟨d,e,f⟩⟩=false):=⟨by rw [hl.out];simp [okC];omega⟩
          go_wp2_with fail;go_ret;exact ⟨zK hf.out.symm,hB⟩
        · have hn:Bx (([a,b,c,d,e,f].take 3).all okC=true):=⟨by have:=Hall.out;simp [okC] at this ⊢; omega⟩
          go_wp2_with fail
          go_roundw
          case rel=>exact ⟨3,by omega,by go_num,hn.out,by trivial⟩
          case measure=>simp [intOf]
    · replace hi:_=Value.int .i64 3:=hi;subst hi;have hix : ∀ w,(Instr.index 183 (.agg #[a,b,c,d,e,f]) (.int .i64 3)).run Tryz.prog w = .ok (.int .i64 d) w:=fun _=>by kernel_rfl
      by_cases hlo:d < -1048575
      · have hf:Bx (okB ⟨⟨a,b,c⟩,⟨d,e,f⟩⟩=false):=⟨by rw [hl.out];simp [okC];omega⟩
        go_wp2_with fail;go_ret;exact ⟨zK hf.out.symm,hB⟩
      · by_cases hhi:1048575<d
        · have hf:Bx (okB ⟨⟨a,b,c⟩,⟨d,e,f⟩⟩=false):=⟨by rw [hl.out];simp [okC];omega⟩
          go_wp2_with fail;go_ret;exact ⟨zK hf.out.symm,hB⟩
        · have hn:Bx (([a,b,c,d,e,f].take 4).all okC=true):=⟨by have:=Hall.out;simp [okC] at this ⊢; omega⟩
          go_wp2_with fail
          go_roundw
          case rel=>exact ⟨4,by omega,by go_num,hn.out,by trivial⟩
          case measure=>simp [intOf]
    · replace hi:_=Value.int .i64 4:=hi;subst hi;have hix : ∀ w,(Instr.index 183 (.agg #[a,b,c,d,e,f]) (.int .i64 4)).run Tryz.prog w = .ok (.int .i64 e) w:=fun _=>by kernel_rfl
      by_cases hlo:e < -1048575
      · have hf:Bx (okB ⟨⟨a,b,c⟩,⟨d,e,f⟩⟩=false):=⟨by rw [hl.out];simp [okC];omega⟩
        go_wp2_with fail;go_ret;exact ⟨zK hf.out.symm,hB⟩
      · by_cases hhi:1048575<e
        · have hf:Bx (okB ⟨⟨a,b,c⟩,⟨d,e,f⟩⟩=false):=⟨by rw [hl.out];simp [okC];omega⟩
          go_wp2_with fail;go_ret;exact ⟨zK hf.out.symm,hB⟩
        · have hn:Bx (([a,b,c,d,e,f].take 5).all okC=true):=⟨by have:=Hall.out;simp [okC] at this ⊢; omega⟩
          go_wp2_with fail
          go_roundw
          case rel=>exact ⟨5,by omega,by go_num,hn.out,by trivial⟩
          case measure=>simp [intOf]
    · replace hi:_=Value.int .i64 5:=hi;subst hi;have hix : ∀ w,(Instr.index 183 (.agg #[a,b,c,d,e,f]) (.int .i64 5)).run Tryz.prog w = .ok (.int .i64 f) w:=fun _=>by kernel_rfl
      by_cases hlo:f < -1048575
      · have hf:Bx (okB ⟨⟨a,b,c⟩,⟨d,e,f⟩⟩=false):=⟨by rw [hl.out];simp [okC];omega⟩
        go_wp2_with fail;go_ret;exact ⟨zK hf.out.symm,hB⟩
      · by_cases hhi:1048575<f
        · have hf:Bx (okB ⟨⟨a,b,c⟩,⟨d,e,f⟩⟩=false):=⟨by rw [hl.out];simp [okC];omega⟩
          go_wp2_with fail;go_ret;exact ⟨zK hf.out.symm,hB⟩
        · have hn:Bx (([a,b,c,d,e,f].take 6).all okC=true):=⟨by have:=Hall.out;simp [okC] at this ⊢; omega⟩
          go_wp2_with fail
          go_roundw
          case rel=>exact ⟨6,by omega,by go_num,hn.out,by trivial⟩
          case measure=>simp [intOf]
  · obtain rfl:k=6:=by omega
    replace hi:_=Value.int .i64 6:=hi;subst hi;go_wp2_with fail;go_ret;exact ⟨zK (by rw [hl.out];have:=Hall.out;simpa using this.symm),hB⟩
end Go.Proofs.YtfcbajmjaifjlaaGreatDoor
namespace Go.Proofs.YtfcbajmjaifjlaaGreatDoor
open Go.RowKit
namespace Pal
def cell (c:Int):Bool:=decide (0≤c) && decide (c≤255)
def brick (l:List Int):Bool:=decide (l.length=64) && l.all cell
theorem cell_eq (c:Int):cell c=decide (0≤c∧c≤255):=by simp [cell]
end Pal
theorem zCS {xs:List Int} {k:Nat} {x:Int} {f:Int→Bool} (hx:xs[k]? = some x) (h:(xs.take k).all f=true) (hf:f x=true):(xs.take (k+1)).all f=true:=by
 rw [List.take_add_one,hx];simp [h,hf]
theorem zCR {xs:List Int} {k:Nat} {x:Int} {f:Int→Bool} (hx:xs[k]? = some x) (hf:f x=false):xs.all f=false:=by
 obtain ⟨hl,rfl⟩:=List.getElem?_eq_some_iff.1 hx;rw [List.all_eq_false];exact ⟨_,List.getElem_mem hl,by simp [hf]⟩
theorem zE5 {xs:List Int} {n:Nat} {f:Int→Bool} (hn:Bx (xs.length=n)) (h:(xs.take n).all f=true):xs.all f=true:=by
 rw [←hn.out,List.take_length] at h;exact h
theorem zFy (c:Int) (w:World):Calls Tryz.prog 135 #[c] w fun e w'=>e = .returned (.bool (!Pal.cell c))∧w=w':=by
 rw [Pal.cell_eq];exact zHd c w
theorem zFz (c:Int) (w:World):Calls Tryz.prog 101 #[c] w fun e w'=>e = .returned (.bool (!Pal.cell c))∧w=w':=by
 have hm:=Bx.mk (zBk c);rw [Pal.cell_eq];generalize decide (0≤c∧c≤255)=r at *;go_enter Tryz.func101,Tryz.ntmps101;go_wp2_with fail;refine (hm.out _).mono ?_;rintro e w1 ⟨rfl,rfl⟩;go_wp2;go_ret;exact ⟨rfl,rfl⟩
theorem zNq (a:Option Addr) (cap:Nat) (xs:List Int) (w:World) (hl:xs.length≤1000000000) (h:Sl w .i64 a xs) :
 Calls Tryz.prog 124 #[.slice a xs.length cap,.func (.func 135) #[] #[]] w fun e w'=>(∃ r:Int,e = .returned (.int .i64 r)∧(decide (0≤r) = !xs.all Pal.cell))∧w=w':=by
 generalize hn:xs.length=n at hl;have Hn:=Bx.mk hn;clear hn;go_enter Tryz.func124,Tryz.ntmps124;go_wp2
 go_loop [8] (fun i => ∃ k:Nat,k≤n∧i = .int .i64 k∧(xs.take k).all Pal.cell=true) (fun i=>n - (intOf i).toNat)
 case atStart=>exact ⟨0,Nat.zero_le _,rfl,by simp⟩
 case round =>
  obtain ⟨k,hk,rfl,hall⟩:=hrel;have Hall:=Bx.mk hall;clear hall;by_cases hlt:k<n
  · obtain ⟨x,hx⟩:=zA6 Hn hlt;obtain ⟨b,off,rfl,hc⟩:=h k x hx;have Hx:=Bx.mk hx;clear h hx;cases hcx:Pal.cell x with
    | false =>
      have hf:=Bx.mk (zCR Hx.out hcx);go_wp2_with (go_at_call 135;refine (zFy x _).mono ?_;rintro e w' ⟨rfl,rfl⟩);go_ret;exact ⟨⟨_,rfl,by rw [hf.out];simp⟩,rfl⟩
    | true =>
      have hf:=Bx.mk (zCS Hx.out Hall.out hcx);go_wp2_with (go_at_call 135;refine (zFy x _).mono ?_;rintro e w' ⟨rfl,rfl⟩);go_round
      case rel=>exact ⟨k+1,by omega,by go_num,hf.out⟩
      case measure=>simp [intOf];omega
  · have hkn:k=n:=by omega
    have hf:=Bx.mk (zE5 Hn (hkn ▸ Hall.out));clear hkn;go_wp2;go_ret;exact ⟨⟨_,rfl,by rw [hf.out];simp⟩,rfl⟩
theorem zIf (a:Option Addr) (cap:Nat) (xs:List Int) (w:World) (hl:xs.length≤1000000000) (h:Sl w .i64 a xs) :
 Calls Tryz.prog 79 #[.slice a xs.length cap,.func (.func 135) #[] #[]] w fun e w'=>e = .returned (.bool (!xs.all Pal.cell))∧w=w':=by
 go_enter Tryz.func79,Tryz.ntmps79;go_wp2_with (go_at_call 124;refine (zNq a cap xs _ hl h).mono ?_;rintro e w' ⟨⟨r,rfl,hr⟩,rfl⟩;have Hr:=Bx.mk hr;clear hr);go_ret;exact ⟨zK Hr.out,rfl⟩
theorem zNr (a:Option Addr) (cap:Nat) (xs:List Int) (w:World) (hl:xs.length≤1000000000) (h:Sl w .i64 a xs) :
 Calls Tryz.prog 124 #[.slice a xs.length cap,.func (.func 101) #[] #[]] w fun e w'=>(∃ r:Int,e = .returned (.int .i64 r)∧(decide (0≤r) = !xs.all Pal.cell))∧w=w':=by
 generalize hn:xs.length=n at hl;have Hn:=Bx.mk hn;clear hn;go_enter Tryz.func124,Tryz.ntmps124;go_wp2
 go_loop [8] (fun i => ∃ k:Nat,k≤n∧i = .int .i64 k∧(xs.take k).all Pal.cell=true) (fun i=>n - (intOf i).toNat)
 case atStart=>exact ⟨0,Nat.zero_le _,rfl,by simp⟩
 case round =>
  obtain ⟨k,hk,rfl,hall⟩:=hrel;have Hall:=Bx.mk hall;clear hall;by_cases hlt:k<n
  · obtain ⟨x,hx⟩:=zA6 Hn hlt;obtain ⟨b,off,rfl,hc⟩:=h k x hx;have Hx:=Bx.mk hx;clear h hx;cases hcx:Pal.cell x with
    | false =>
      have hf:=Bx.mk (zCR Hx.out hcx);go_wp2_with (go_at_call 101;refine (zFz x _).mono ?_;rintro e w' ⟨rfl,rfl⟩);go_ret;exact ⟨⟨_,rfl,by rw [hf.out];simp⟩,rfl⟩
    | true =>
      have hf:=Bx.mk (zCS Hx.out Hall.out hcx);go_wp2_with (go_at_call 101;refine (zFz x _).mono ?_;rintro e w' ⟨rfl,rfl⟩);go_round
      case rel=>exact ⟨k+1,by omega,by go_num,hf.out⟩
      case measure=>simp [intOf];omega
  · have hkn:k=n:=by omega
    have hf:=Bx.mk (zE5 Hn (hkn ▸ Hall.out));clear hkn;go_wp2;go_ret;exact ⟨⟨_,rfl,by rw [hf.out];simp⟩,rfl⟩
theorem zIg (a:Option Addr) (cap:Nat) (xs:List Int) (w:World) (hl:xs.length≤1000000000) (h:Sl w .i64 a xs) :
 Calls Tryz.prog 79 #[.slice a xs.length cap,.func (.func 101) #[] #[]] w fun e w'=>e = .returned (.bool (!xs.all Pal.cell))∧w=w':=by
 go_enter Tryz.func79,Tryz.ntmps79;go_wp2_with (go_at_call 124;refine (zNr a cap xs _ hl h).mono ?_;rintro e w' ⟨⟨r,rfl,hr⟩,rfl⟩;have Hr:=Bx.mk hr;clear hr);go_ret;exact ⟨zK Hr.out,rfl⟩
end Go.Proofs.YtfcbajmjaifjlaaGreatDoor
namespace Go.Proofs.YtfcbajmjaifjlaaGreatDoor
open Go.RowKit Go.Sort Go.Maps
open Oct
structure Top (xs:List Int) (m:Int):Prop where
 le : ∀ x∈xs,x≤m
 mem:m∈xs
structure Bot (xs:List Int) (m:Int):Prop where
 le : ∀ x∈xs,m≤x
 mem:m∈xs
theorem zAC {xs:List Int} {k:Nat} {x:Int} (h:xs[k]? = some x):xs.take (k+1)=xs.take k++[x]:=by
 rw [List.take_add_one,h];rfl
theorem Top.step {xs:List Int} {k:Nat} {m x:Int} (h:Top (xs.take k) m) (hx:xs[k]? = some x):Top (xs.take (k+1)) (max m x):=by
 rw [zAC hx];refine ⟨fun y hy=>?_,?_⟩
 · rcases List.mem_append.1 hy with hy | hy
   · have:=h.le y hy;omega
   · rw [List.mem_singleton.1 hy];omega
 · by_cases hm:x≤m
   · rw [show max m x=m by omega];exact List.mem_append_left _ h.mem
   · rw [show max m x=x by omega];simp
theorem Bot.step {xs:List Int} {k:Nat} {m x:Int} (h:Bot (xs.take k) m) (hx:xs[k]? = some x):Bot (xs.take (k+1)) (min m x):=by
 rw [zAC hx];refine ⟨fun y hy=>?_,?_⟩
 · rcases List.mem_append.1 hy with hy | hy
   · have:=h.le y hy;omega
   · rw [List.mem_singleton.1 hy];omega
 · by_cases hm:m≤x
   · rw [show min m x=m by omega];exact List.mem_append_left _ h.mem
   · rw [show min m x=x by omega];simp
theorem zI4 {xs:List Int} {a b:Int} (h:Top xs a) (h':Bot xs b):a=b ↔ ∀ x∈xs,x=xs.headD 0:=by
 have hne:xs ≠ []:=by intro e;have:=h.mem;rw [e] at this;cases this
 obtain ⟨y,r,rfl⟩:=List.exists_cons_of_ne_nil hne;constructor
 · intro e x hx;have h1:=h.le x hx;have h2:=h'.le x hx;have h3:=h.le y (by simp)
   have h4:=h'.le y (by simp)
   show x=y
   omega
 · intro e;rw [e a h.mem,e b h'.mem]
theorem zHr (a:Option Addr) (cap:Nat) (xs:List Int) (w:World) (hl:xs.length≤1000000000) (h1:1≤xs.length) (h:Sl w .i64 a xs) :
 Calls Tryz.prog 102 #[.slice a xs.length cap] w fun e w' => ∃ m:Int,e = .returned (.int .i64 m)∧Bx (Top xs m)∧w=w':=by
 obtain ⟨x0,h0⟩ : ∃ x,xs[0]? = some x:=⟨_,List.getElem?_eq_getElem (by omega)⟩
 obtain ⟨b,off,rfl,hc0⟩:=h 0 x0 h0;have H0:Bx (Top (xs.take 1) x0):=⟨by rw [zAC h0];exact ⟨by simp,by simp⟩⟩
 have Hs:=Bx.mk h;have Hc:=Bx.mk (show Top (xs.take xs.length)=Top xs by rw [List.take_length])
 clear h h0;rw [Nat.add_zero] at hc0;generalize hn:xs.length=n at *;have Hn:=Bx.mk hn;clear hn;go_enter Tryz.func102,Tryz.ntmps102;go_wp2
 go_loop [3,4] (fun m i => ∃ k:Nat,∃ z:Int,1≤k∧k≤n∧i = .int .i64 k∧m = .int .i64 z∧Bx (Top (xs.take k) z)) (fun _ i=>n - (intOf i).toNat)
 case atStart=>exact ⟨1,x0,by omega,by omega,rfl,rfl,H0⟩
 case round =>
  obtain ⟨k,z,hk1,hk,rfl,rfl,hall⟩:=hrel;by_cases hlt:k<n
  · obtain ⟨x,hx⟩:=zA6 Hn hlt;obtain ⟨b',off',hb,hc⟩:=Hs.out k x hx;simp only [Option.some.injEq,Addr.mk.injEq,and_true] at hb;obtain ⟨rfl,rfl⟩:=hb;have hnext:=Bx.mk (hall.out.step hx);clear hx hc0;go_wp2
    all_goals
     go_round
     case rel=>exact ⟨k+1,max z x,by omega,by omega,by go_num,by first | rfl | (congr 1;omega),hnext⟩
     case measure=>simp [intOf];omega
  · obtain rfl:k=n:=by omega
    rw [Hc.out] at hall;go_wp2;go_ret;exact ⟨z,rfl,hall,rfl⟩
theorem zHq (a:Option Addr) (cap:Nat) (xs:List Int) (w:World) (hl:xs.length≤1000000000) (h1:1≤xs.length) (h:Sl w .i64 a xs) :
 Calls Tryz.prog 103 #[.slice a xs.length cap] w fun e w' => ∃ m:Int,e = .returned (.int .i64 m)∧Bx (Bot xs m)∧w=w':=by
 obtain ⟨x0,h0⟩ : ∃ x,xs[0]? = some x:=⟨_,List.getElem?_eq_getElem (by omega)⟩
 obtain ⟨b,off,rfl,hc0⟩:=h 0 x0 h0;have H0:Bx (Bot (xs.take 1) x0):=⟨by rw [zAC h0];exact ⟨by simp,by simp⟩⟩
 have Hs:=Bx.mk h;have Hc:=Bx.mk (show Bot (xs.take xs.length)=Bot xs by rw [List.take_length])
 clear h h0;rw [Nat.add_zero] at hc0;generalize hn:xs.length=n at *;have Hn:=Bx.mk hn;clear hn;go_enter Tryz.func103,Tryz.ntmps103;go_wp2
 go_loop [3,4] (fun m i => ∃ k:Nat,∃ z:Int,1≤k∧k≤n∧i = .int .i64 k∧m = .int .i64 z∧Bx (Bot (xs.take k) z)) (fun _ i=>n - (intOf i).toNat)
 case atStart=>exact ⟨1,x0,by omega,by omega,rfl,rfl,H0⟩
 case round =>
  obtain ⟨k,z,hk1,hk,rfl,rfl,hall⟩:=hrel;by_cases hlt:k<n
  · obtain ⟨x,hx⟩:=zA6 Hn hlt;obtain ⟨b',off',hb,hc⟩:=Hs.out k x hx;simp only [Option.some.injEq,Addr.mk.injEq,and_true] at hb;obtain ⟨rfl,rfl⟩:=hb;have hnext:=Bx.mk (hall.out.step hx);clear hx hc0;go_wp2
    all_goals
     go_round
     case rel=>exact ⟨k+1,min z x,by omega,by omega,by go_num,by first | rfl | (congr 1;omega),hnext⟩
     case measure=>simp [intOf];omega
  · obtain rfl:k=n:=by omega
    rw [Hc.out] at hall;go_wp2;go_ret;exact ⟨z,rfl,hall,rfl⟩
end Go.Proofs.YtfcbajmjaifjlaaGreatDoor
namespace Go.Proofs.YtfcbajmjaifjlaaGreatDoor
open Go.RowKit Go.Sort Go.Maps
open Oct
theorem zE6 {xs:List Int} (h:xs.all Pal.cell=true) : ∀ x∈xs,0≤x∧x≤255:=by
 intro x hx;have:=List.all_eq_true.1 h x hx;simpa [Pal.cell] using this
theorem zCP (w:World) (Far:Nat→Prop) (sb:Nat) (most:Int) (ts:List Tr) (a:Option Addr) (cap:Nat) (xs:List Int) (hn:xs.length=64) (hb:xs.all Pal.cell=true) (h:Sl w .i64 a xs) (hG:Good ts) (hlen:ts.length≤1000000000000) (hFar : ∀ k,Far k→k<w.heap.size) (hS:StoreIs w Far sb most ts) :
 Calls Tryz.prog 48 #[.pointer (some ⟨sb,0,none⟩),.slice a 64 cap] w (Grew Far sb most ts (Tr.add (Tr.mkBrick xs) ts) (Tr.mkBrick xs) w):=by
 have h1:=zIg a cap xs w (by omega) h
 have h2:=zHr a cap xs w (by omega) (by omega) h
 have h3:=zHq a cap xs w (by omega) (by omega) h
 rw [hn] at h1 h2 h3;rw [hb] at h1;have h1:=Bx.mk h1;have h2:=Bx.mk h2;have h3:=Bx.mk h3;obtain ⟨x0,hx0⟩ : ∃ x,xs[0]? = some x:=⟨_,List.getElem?_eq_getElem (by omega)⟩
 obtain ⟨b,off,rfl,hc0⟩:=h 0 x0 hx0
 have hd:xs.headD 0=x0:=by cases xs with
  | nil=>simp at hx0
  | cons y r=>simpa using hx0
 have hcells:=zE6 hb;by_cases hall : ∀ x∈xs,x=xs.headD 0
 · have hm:Tr.mkBrick xs = .uni x0:=by unfold Tr.mkBrick;rw [if_pos hall,hd]
   rw [hm];have h4:=Bx.mk (zBD w Far sb most ts x0 (hcells x0 (List.mem_of_getElem? hx0)) hG hlen hFar hS);have Hall:=Bx.mk hall;rw [Nat.add_zero] at hc0;clear hall hm hcells hG hlen hFar hS hn hb h hx0 hd;go_enter Tryz.func48,Tryz.ntmps48;go_wp2_with fail;refine h1.out.mono ?_;rintro e w1 ⟨rfl,rfl⟩;go_wp2_with fail;refine h2.out.mono ?_;rintro e w1 ⟨z1,rfl,hz1,rfl⟩;go_wp2_with fail;refine h3.out.mono ?_;rintro e w1 ⟨z2,rfl,hz2,rfl⟩;obtain rfl:z1=z2:=(zI4 hz1.out hz2.out).2 Hall.out;go_wp2_with fail;refine h4.out.mono ?_;rintro e w2 hg;have Hg:=Bx.mk hg;obtain ⟨-,-,(⟨hf,rfl,hs⟩ | ⟨hf,rfl,us,hs⟩)⟩:=hg
   all_goals
    clear hf hs;go_wp2_with fail
    go_ret2
    exact Hg.out
 · have hm:Tr.mkBrick xs = .brick xs:=by unfold Tr.mkBrick;rw [if_neg hall]
   rw [hm];have hby:Bytes (.brick xs):=Bytes.brick ⟨hn,hcells⟩;have hle:Leans ts (.brick xs):=fun d ch h=>by cases h
   have h4:Bx (∀ W,Below w.heap.size w W→Calls Tryz.prog 63 #[.pointer (some ⟨sb,0,none⟩),.agg #[(2:Int),(0:Int),.string (strOfNums xs),(2:Int),(0:Int),(0:Int),(0:Int),(0:Int),(0:Int),(0:Int),(0:Int),(0:Int)]] W (Grew Far sb most ts (Tr.add (.brick xs) ts) (.brick xs) W)):=⟨fun W hW=>by
    have hV:zl ts (.brick xs)=zAW 2 0 (strOfNums xs) 2 0 0 0 0 0 0 0 0:=rfl;have hk:=zFc hlen hle hby;rw [hV] at hk;rw [Tr.add_brick];exact zEj W Far sb most ts (.brick xs) 2 0 2 0 0 0 0 0 0 0 0 (strOfNums xs) hV hG hle hby hlen (fun k hk=>Nat.lt_of_lt_of_le (hFar k hk) hW.size) hk (hS.later hW)⟩
   have Hall:=Bx.mk hall;have Hs:=Bx.mk h;have Hn:=Bx.mk hn;have Hc:=Bx.mk hcells
   have hmk : ∀ W,(Instr.makeSlice 107 (.int .i64 64) (.int .i64 64)).run Tryz.prog W = .ok (.slice (some ⟨W.heap.size,0,none⟩) 64 64) (W.alloc (.cells (madeCells #[.int .u8 0] 64) 5)) :=
    fun W=>run_make_row' (P:=Tryz.prog) 107 5 (.int .u8 0) 1 Tryz.underlying107 (by kernel_rfl) rfl .i64 .i64 64 (by decide) (by decide) W
   clear hall hm hcells hby hle hG hlen hFar hS hn hb h hx0 hd hc0;go_enter Tryz.func48,Tryz.ntmps48;go_wp2_with fail;refine h1.out.mono ?_;rintro e w1 ⟨rfl,rfl⟩;go_wp2_with fail;refine h2.out.mono ?_;rintro e w1 ⟨z1,rfl,hz1,rfl⟩;go_wp2_with fail;refine h3.out.mono ?_;rintro e w1 ⟨z2,rfl,hz2,rfl⟩;have hne:(z1 == z2)=false:=by simpa using fun e=>Hall.out ((zI4 hz1.out hz2.out).1 e)
   clear hz1 hz2 h1 h2 h3;go_wp2_with fail
   go_loopw [33] (fun i wr => ∃ k:Nat,k≤64∧i = .int .i64 k∧Bx (wr.rowIs w.heap.size 5 64 (fun j=>.int .u8 (if j<k then xs.getD j 0 else 0)))∧Bx (Below w.heap.size w wr)) (fun i _=>64 - (intOf i).toNat)
   case atStart=>exact ⟨0,Nat.zero_le _,rfl,⟨(World.rowIs_made _ _ _ _).congr (fun i _=>rfl)⟩,⟨(Below.refl _ _).alloc (Nat.le_refl _) _⟩⟩
   case round =>
    obtain ⟨k,hk,rfl,hrow,hB⟩:=hrel;have hS1:=Hs.out.below hB.out;by_cases hlt:k<64
    · obtain ⟨x,hx⟩:=zA6 Hn hlt;obtain ⟨b',off',hb,hc⟩:=hS1 k x hx;simp only [Option.some.injEq,Addr.mk.injEq,and_true] at hb;obtain ⟨rfl,rfl⟩:=hb;have hr:=Hc.out x (List.mem_of_getElem? hx);have hxg:Bx (xs.getD k 0=x):=⟨by simp [List.getD,hx]⟩
      have b1:(0:Int)≤(k:Int):=by omega
      have b2:(k:Int)<64:=by omega
      have hcell:=hrow.out.cell hlt;have hfr:=hrow.out.frozen k;have hw8:IntKind.u8.wrap x=x:=by unfold IntKind.wrap;simp [IntKind.bits,IntKind.signed];omega
      clear hS1 hx hmk;go_wp2_with fail
      have hrow2:=Bx.mk ((hrow.out.set k (.int .u8 x)).congr (g:=fun j=>.int .u8 (if j<k+1 then xs.getD j 0 else 0)) (fun j hj=>by
       by_cases e:j=k
       · rw [e];simp only [if_true];rw [if_pos (by omega),hxg.out]
       · simp only [e,if_false];by_cases h5:j<k
         · rw [if_pos h5,if_pos (by omega)]
         · rw [if_neg h5,if_neg (by omega)]))
      have hB2:=Bx.mk (show Below w.heap.size w (wr.setCell ⟨w.heap.size,k,none⟩ (.int .u8 x)) from hB.out.setCell (Nat.le_refl _) _);clear hcell hfr
      go_roundw
      case rel=>exact ⟨k+1,by omega,by go_num,hrow2,hB2⟩
      case measure=>simp [intOf];omega
    · obtain rfl:k=64:=by omega
      have hsl:Sl wr .u8 (some ⟨w.heap.size,0,none⟩) xs:=fun i x hx=>⟨w.heap.size,0,rfl,by
       have hi:i<64:=by have:=(List.getElem?_eq_some_iff.1 hx).1;rw [Hn.out] at this;exact this
       have:=hrow.out.cell hi;simp only [hi,if_true] at this;rw [Nat.zero_add,this];simp [List.getD,hx]⟩
      have hcv:=zAJ (P:=Tryz.prog) 107 5 9 Tryz.underlying107 Tryz.underlying5 Tryz.underlying9 hsl 64 64 Hn.out.symm;have h5:=Bx.mk (h4.out wr hB.out);clear hsl hS1 hmk;generalize strOfNums xs=S at *;go_wp2_with fail;refine h5.out.mono ?_;rintro e w2 hg;have Hg:=Bx.mk (hg.since hB.out);obtain ⟨-,-,(⟨hf,rfl,hs⟩ | ⟨hf,rfl,us,hs⟩)⟩:=hg
      all_goals
       clear hf hs;go_wp2_with fail
       go_ret2
       exact Hg.out
end Go.Proofs.YtfcbajmjaifjlaaGreatDoor
namespace Go.Proofs.YtfcbajmjaifjlaaGreatDoor
open Go.RowKit Go.Sort Go.Maps
open Oct
def zNT:Tr→List Int
 | .uni c=>[c]
 | .brick l=>l
 | .node _ _=>[]
theorem num8 {x:Int} (h:0≤x∧x≤255):((UInt8.ofNat x.toNat).toNat:Int)=x:=by
 simp only [UInt8.toNat_ofNat'];omega
theorem zIe (W:World) (xs:List Int) (hb : ∀ x∈xs,0≤x∧x≤255) : ∃ W' cap,(convert 9 107 (.string (strOfNums xs))).run Tryz.prog W = .ok (.slice (some ⟨W.heap.size,0,none⟩) xs.length cap) W'∧Below W.heap.size W W'∧Sl W' .u8 (some ⟨W.heap.size,0,none⟩) xs:=by
 have h:=run_bytes_of_string (P:=Tryz.prog) W 9 107 5 (strOfNums xs) Tryz.underlying9 Tryz.underlying107 Tryz.underlying5;rw [strOfNums_size] at h;refine ⟨_,_,h,((Below.refl _ _).drew).alloc (Nat.le_refl _) _,fun i x hx=>⟨_,0,rfl,?_⟩⟩;rw [Nat.zero_add];unfold World.cell?;rw [show W.heap.size=W.drew.heap.size from rfl,heap_alloc_new];have hi:i<xs.length:=(List.getElem?_eq_some_iff.1 hx).1
 have hd:(strOfNums xs).data[i]? = some (UInt8.ofNat x.toNat):=by
  rw [←Array.getElem?_toList,strOfNums_data,List.getElem?_map,hx];rfl
 have hr:=num8 (hb x (List.mem_of_getElem? hx));simp only [bytesRow]
 rw [Array.getElem?_append_left (by
  have:(strOfNums xs).data.size=xs.length:=by rw [←Array.length_toList,strOfNums_data,List.length_map]
  simp [this,hi])]
 have hx0:=hb x (List.mem_of_getElem? hx);simp [hd];omega
theorem zKP (w:World) (sb g n cap mb i:Nat) (most c d y0 y1 y2 y3 y4 y5 y6 y7:Int) (s:ByteArray) (hi:i<n) (_hn:n≤1000000000000) (ks:Bk w sb #[most,.slice (some ⟨g,0,none⟩) n cap,.map (some mb)] 80) (hc:Bx (∀ j u,j<12→(#[(1:Int),c,.string s,d,y0,y1,y2,y3,y4,y5,y6,y7]:Array Value).toList[j]? = some u→w.cell? ⟨g,i * 12+j,none⟩=some u)) :
 Calls Tryz.prog 46 #[.pointer (some ⟨sb,0,none⟩),(i:Int)] w fun e w' => ∃ v,e = .returned v∧Own w' w.heap.size 3 .i64 v [c]∧Below w.heap.size w w':=by
 have b1:(0:Int)≤(i:Int):=by omega
 have b2:(i:Int)<(n:Int):=by omega
 have cs1:=ks.cell 1 rfl;have d0:w.cell? ⟨g,i * 12,none⟩=some (.int .i64 1):=hc.out 0 _ (by omega) rfl
 have d1:w.cell? ⟨g,i * 12+1,none⟩=some (.int .i64 c):=hc.out 1 _ (by omega) rfl
 have d2:w.cell? ⟨g,i * 12+2,none⟩=some (.string s):=hc.out 2 _ (by omega) rfl
 have d3:w.cell? ⟨g,i * 12+3,none⟩=some (.int .i64 d):=hc.out 3 _ (by omega) rfl
 have d4:w.cell? ⟨g,i * 12+4,none⟩=some (.int .i64 y0):=hc.out 4 _ (by omega) rfl
 have d5:w.cell? ⟨g,i * 12+5,none⟩=some (.int .i64 y1):=hc.out 5 _ (by omega) rfl
 have d6:w.cell? ⟨g,i * 12+6,none⟩=some (.int .i64 y2):=hc.out 6 _ (by omega) rfl
 have d7:w.cell? ⟨g,i * 12+7,none⟩=some (.int .i64 y3):=hc.out 7 _ (by omega) rfl
 have d8:w.cell? ⟨g,i * 12+8,none⟩=some (.int .i64 y4):=hc.out 8 _ (by omega) rfl
 have d9:w.cell? ⟨g,i * 12+9,none⟩=some (.int .i64 y5):=hc.out 9 _ (by omega) rfl
 have d10:w.cell? ⟨g,i * 12+10,none⟩=some (.int .i64 y6):=hc.out 10 _ (by omega) rfl
 have d11:w.cell? ⟨g,i * 12+11,none⟩=some (.int .i64 y7):=hc.out 11 _ (by omega) rfl
 clear ks hc;go_enter Tryz.func46,Tryz.ntmps46;go_upto_region 2 with fail;generalize hW:World.alloc w _=W;have hSz:=sz1 hW;have hB:=bl1 hW;have kn:Bk W (w.heap.size) #[(1:Int),c,.string s,d,y0,y1,y2,y3,y4,y5,y6,y7] 101:=bk0 hW;clear hW;clear d0 d1 d2 d3 d4 d5 d6 d7 d8 d9 d10 d11 cs1;obtain ⟨cn0,cn1,cn2,cn3,cn4,cn5,cn6,cn7,cn8,cn9,cn10,cn11⟩:=kn.c12;go_wp2_with fail;go_ret;refine ⟨_,rfl,Own.lit W w.heap.size 3 .i64 #[c] [c] 1 hB.size (by simp [maxLen]) rfl rfl,hB.alloc hB.size _⟩
theorem zF0 (w:World) (sb g n cap mb i:Nat) (most kk c d y0 y1 y2 y3 y4 y5 y6 y7:Int) (s:ByteArray) (xs:List Int) (hs:s=strOfNums xs) (hl:xs.length≤64) (hb : ∀ x∈xs,0≤x∧x≤255) (hk:(kk == 1)=false) (hi:i<n) (_hn:n≤1000000000000) (ks:Bk w sb #[most,.slice (some ⟨g,0,none⟩) n cap,.map (some mb)] 80) (hc:Bx (∀ j u,j<12→(#[kk,c,.string s,d,y0,y1,y2,y3,y4,y5,y6,y7]:Array Value).toList[j]? = some u→w.cell? ⟨g,i * 12+j,none⟩=some u)) :
 Calls Tryz.prog 46 #[.pointer (some ⟨sb,0,none⟩),(i:Int)] w fun e w' => ∃ v,e = .returned v∧Own w' w.heap.size 3 .i64 v xs∧Below w.heap.size w w':=by
 replace hs:=Bx.mk hs;replace hb:=Bx.mk hb;have b1:(0:Int)≤(i:Int):=by omega
 have b2:(i:Int)<(n:Int):=by omega
 have cs1:=ks.cell 1 rfl;have d0:w.cell? ⟨g,i * 12,none⟩=some (.int .i64 kk):=hc.out 0 _ (by omega) rfl
 have d1:w.cell? ⟨g,i * 12+1,none⟩=some (.int .i64 c):=hc.out 1 _ (by omega) rfl
 have d2:w.cell? ⟨g,i * 12+2,none⟩=some (.string s):=hc.out 2 _ (by omega) rfl
 have d3:w.cell? ⟨g,i * 12+3,none⟩=some (.int .i64 d):=hc.out 3 _ (by omega) rfl
 have d4:w.cell? ⟨g,i * 12+4,none⟩=some (.int .i64 y0):=hc.out 4 _ (by omega) rfl
 have d5:w.cell? ⟨g,i * 12+5,none⟩=some (.int .i64 y1):=hc.out 5 _ (by omega) rfl
 have d6:w.cell? ⟨g,i * 12+6,none⟩=some (.int .i64 y2):=hc.out 6 _ (by omega) rfl
 have d7:w.cell? ⟨g,i * 12+7,none⟩=some (.int .i64 y3):=hc.out 7 _ (by omega) rfl
 have d8:w.cell? ⟨g,i * 12+8,none⟩=some (.int .i64 y4):=hc.out 8 _ (by omega) rfl
 have d9:w.cell? ⟨g,i * 12+9,none⟩=some (.int .i64 y5):=hc.out 9 _ (by omega) rfl
 have d10:w.cell? ⟨g,i * 12+10,none⟩=some (.int .i64 y6):=hc.out 10 _ (by omega) rfl
 have d11:w.cell? ⟨g,i * 12+11,none⟩=some (.int .i64 y7):=hc.out 11 _ (by omega) rfl
 clear ks hc;go_enter Tryz.func46,Tryz.ntmps46;go_upto_region 2 with fail;generalize hW:World.alloc w _=W;have hSz:=sz1 hW;have hB:=bl1 hW;have kn:Bk W (w.heap.size) #[kk,c,.string s,d,y0,y1,y2,y3,y4,y5,y6,y7] 101:=bk0 hW;clear hW;clear d0 d1 d2 d3 d4 d5 d6 d7 d8 d9 d10 d11 cs1;obtain ⟨cn0,cn1,cn2,cn3,cn4,cn5,cn6,cn7,cn8,cn9,cn10,cn11⟩:=kn.c12;obtain ⟨W2,c2,hrun,hb2,hsl⟩:=zIe W xs hb.out;rw [←hs.out] at hrun;have Hs:=Bx.mk hsl;have Hb2:=Bx.mk hb2;have hlB:=hB.size;have hB2:=Bx.mk (hB.trans (hb2.mono hB.size));have Hr:=hb;have hz2:w.heap.size≤W2.heap.size:=hB2.out.size;have Ht:=Bx.mk (show xs.take xs.length=xs from List.take_length);clear hb2 hsl hs;generalize hn2:xs.length=m at *;replace hn2:=Bx.mk hn2;go_wp2_with fail;clear cn0 cn1 cn2 cn3 cn4 cn5 cn6 cn7 cn8 cn9 cn10 cn11 kn hrun hk
 go_loopw [6,26] (fun v i wr => ∃ k:Nat,k≤m∧i = .int .i64 k∧Bx (Own wr W2.heap.size 3 .i64 v (xs.take k))∧Bx (Below w.heap.size w wr)∧Bx (Below W2.heap.size W2 wr)) (fun _ i _=>m - (intOf i).toNat)
 case atStart=>exact ⟨0,Nat.zero_le _,rfl,⟨Own.nil _ _ _ _⟩,hB2,⟨Below.refl _ _⟩⟩
 case round =>
  obtain ⟨k,hk,rfl,hown,hbw,hb2⟩:=hrel;by_cases hlt:k<m
  · obtain ⟨x,hx⟩:=zA6 hn2 hlt;obtain ⟨b',off',hbo,hc⟩:=(Hs.out.below hb2.out) k x hx;simp only [Option.some.injEq,Addr.mk.injEq,and_true] at hbo;obtain ⟨rfl,rfl⟩:=hbo;rw [Nat.zero_add] at hc;have hr:=Hr.out x (List.mem_of_getElem? hx);have hnext:=Bx.mk (zAC hx);have b3:(0:Int)≤(k:Int):=by omega
    have b4:(k:Int)<(m:Int):=by omega
    have hwrap:IntKind.i64.wrap x=x:=IntWalk.i64_in _ (by omega)
    have hle:=hbw.out.size;have hle2:W2.heap.size≤wr.heap.size:=hb2.out.size;have htl:(xs.take k).length≤1000000000:=by rw [List.length_take];omega
    have Htl:=Bx.mk htl;clear hx htl
    go_wp2_with (first
     | (at_builtin
        refine zO rfl _ _ 26 rfl 3 .i64 (.int .i64 0) 8 (by omega) Tryz.underlying26 (by kernel_rfl) rfl W2.heap.size _ (xs.take k) rfl (hown.out.alloc _) x ⟨wr.heap.size,0,none⟩ 1 rfl (zn _ _ _) Htl.out (zb hle2 _) ?_
        intro v1 w1 hown1 hg1 _))
    have hown2:=Bx.mk hown1;rw [←hnext.out] at hown2;have hbw2:=Bx.mk ((hbw.out.alloc hle (.cells #[x] 3)).grown hg1 (zb hle _) (fun g hg=>Nat.le_trans hz2 (hown.out.lt g hg).1));have hb3:=Bx.mk ((hb2.out.alloc hle2 (.cells #[x] 3)).grown hg1 (zb hle2 _) (fun g hg=>(hown.out.lt g hg).1));clear hown1 hg1
    go_roundw
    case rel=>exact ⟨k+1,by omega,by go_num,hown2,hbw2,hb3⟩
    case measure=>simp [intOf];omega
  · obtain rfl:k=m:=by omega
    go_wp2_with fail;go_ret;refine ⟨_,rfl,?_,hbw.out⟩;have:=hown.out;rw [Ht.out] at this;exact this.base hz2
theorem zAt (w:World) (Far:Nat→Prop) (sb:Nat) (most:Int) (ts:List Tr) (t:Tr) (ht:t∈ts) (hG:Good ts) (hlen:ts.length≤1000000000000) (hS:StoreIs w Far sb most ts) :
 Calls Tryz.prog 46 #[.pointer (some ⟨sb,0,none⟩),(idT ts t:Int)] w fun e w' => ∃ v,e = .returned v∧Own w' w.heap.size 3 .i64 v (zNT t)∧Below w.heap.size w w':=by
 have hby:=hG.bytes t ht;cases t with
 | uni c =>
   obtain ⟨g,cap,mb,h1,h2,h3⟩:=Bx.node hS ht (k:=1) (c:=c) rfl;exact zKP w sb g ts.length cap mb _ most c _ _ _ _ _ _ _ _ _ _ h2 hlen h1 h3
 | brick l =>
   obtain ⟨g,cap,mb,h1,h2,h3⟩:=Bx.node hS ht (k:=2) (s:=strOfNums l) rfl;exact zF0 w sb g ts.length cap mb _ most 2 _ _ _ _ _ _ _ _ _ _ _ l rfl (by rw [(hby.bricks l rfl).1];omega) (hby.bricks l rfl).2 (by decide) h2 hlen h1 h3
 | node d ch =>
   obtain ⟨g,cap,mb,h1,h2,h3⟩:=Bx.node hS ht (k:=3) (s:=ByteArray.empty) rfl;exact zF0 w sb g ts.length cap mb _ most 3 _ _ _ _ _ _ _ _ _ _ _ [] rfl (by simp) (by simp) (by decide) h2 hlen h1 h3
end Go.Proofs.YtfcbajmjaifjlaaGreatDoor
namespace Go.Proofs.YtfcbajmjaifjlaaGreatDoor
open Go.RowKit
def Byt (t:List Int):Prop := ∀ x∈t,0≤x∧x≤255
def bs (s:ByteArray):List Int:=s.data.toList.map fun b=>(b.toNat:Int)
theorem zMq {t:List Int} (h:Byt t):bs (strOfNums t)=t:=by
 unfold bs;rw [strOfNums_data,List.map_map]
 conv=>rhs;rw [←List.map_id t]
 apply List.map_congr_left;intro x hx;have:=h x hx;simp [UInt8.toNat_ofNat'];omega
theorem Byt.drop {t:List Int} (h:Byt t) (k:Nat):Byt (t.drop k):=fun x hx=>h x (List.mem_of_mem_drop hx)
theorem Byt.take {t:List Int} (h:Byt t) (k:Nat):Byt (t.take k):=fun x hx=>h x (List.mem_of_mem_take hx)
theorem Byt.append {t u:List Int} (h:Byt t) (h':Byt u):Byt (t++u):=fun x hx=>by
 rcases List.mem_append.1 hx with h1 | h1
 · exact h x h1
 · exact h' x h1
theorem Byt.get {t:List Int} (h:Byt t) {k:Nat} {x:Int} (hx:t[k]? = some x):0≤x∧x≤255:=h x (List.mem_of_getElem? hx)
theorem zBf (t u:List Int):strOfNums t++strOfNums u=strOfNums (t++u):=by
 apply ByteArray.ext;simp [strOfNums]
theorem zDP (t:List Int) (a b:Nat):(strOfNums t).extract a b=strOfNums ((t.drop a).take (b - a)):=by
 unfold strOfNums;rw [ByteArray.extract_mk,←List.map_drop,←List.map_take]
theorem zM2 {t:List Int} (h:Byt t) {k:Nat} {x:Int} (hx:t[k]? = some x) : ∃ hk:k<(strOfNums t).size,(((strOfNums t)[k]'hk).toNat:Int)=x:=by
 obtain ⟨hk,rfl⟩:=List.getElem?_eq_some_iff.1 hx;refine ⟨by rw [strOfNums_size];exact hk,?_⟩
 have h1:=h _ (List.getElem_mem hk)
 show (((strOfNums t).data[k]'_).toNat:Int)=t[k]
 simp [strOfNums,UInt8.toNat_ofNat'];omega
theorem zJz {P:Program} (T:TypeId) (hu:P.underlying T=some .string) {t:List Int} (hb:Byt t) {k:Nat} {x:Int} (h:t[k]? = some x) (w:World) :
 (Instr.index T (.string (strOfNums t)) (.int .i64 (k:Int))).run P w = .ok (.int .u8 x) w:=by
 obtain ⟨hk,hx⟩:=zM2 hb h;rw [run_index_string w T _ _ _ hu,dif_pos ⟨by omega,by omega⟩]
 simp only [Int.toNat_natCast];rw [hx]
end Go.Proofs.YtfcbajmjaifjlaaGreatDoor
namespace Go.Proofs.YtfcbajmjaifjlaaGreatDoor
open Go.RowKit Go.Sort Go.Maps
open Oct
inductive Dep:Nat→Tr→Prop
 | uni (n:Nat) (c:Int):Dep n (.uni c)
 | brick (l:List Int):Dep 0 (.brick l)
 | node (n:Nat) (ch:Fin 8→Tr) (h : ∀ i,Dep n (ch i)):Dep (n+1) (.node (n+3) ch)
theorem zDZ (m:Nat) (hm:m≤12) (dd:Int) (hd:dd=(m:Int)+3) (px py pz:Int) (hx:0≤px∧px≤100000) (hy:0≤py∧py≤100000) (hz:0≤pz∧pz≤100000) (w:World) :
 Calls Tryz.prog 50 #[dd,.agg #[px,py,pz]] w fun e w'=>e = .returned (.int .i64 ((Tr.oct m ⟨px,py,pz⟩).val:Int))∧Below w.heap.size w w':=by
 subst hd;have h:=zH8 (m+2) (by omega) px py pz hx hy hz w
 rw [show ((m+2+1:Nat):Int)=(m:Int)+3 by omega] at h
 refine h.mono ?_;rintro e w' ⟨rfl,hb⟩;refine ⟨zY ?_,hb⟩;unfold Tr.oct Tr.octN;simp only [];omega
theorem zN1 (w:World) (sb:Nat) (i:Int) (n:Nat) (hn:n≤14) (px py pz:Int) (h:inB ⟨px,py,pz⟩ (zy (2 ^ n))=false) :
 Calls Tryz.prog 12 #[.pointer (some ⟨sb,0,none⟩),i,(n:Int),.agg #[px,py,pz]] w fun e w'=>e = .returned (.int .i64 0)∧Below w.heap.size w w':=by
 have h1:=Bx.mk (fun W=>zA2 n hn px py pz W);rw [h] at h1;clear h;go_enter Tryz.func12,Tryz.ntmps12;go_wp2_with fail;generalize hW:World.alloc w _=W;have hSz:=sz1 hW;have hB:=bl1 hW;have kp:Bk W (w.heap.size) #[px,py,pz] 23:=bk0 hW;clear hW;refine (h1.out _).mono ?_;rintro e w1 ⟨rfl,hb⟩;have hB2:=hB.trans (hb.mono hB.size);go_wp2_with fail;go_ret;exact ⟨rfl,hB2⟩
theorem zLc {w:World} {b:Nat} {ts:List Tr} {ch:Fin 8→Tr} {v0 v1 v2 v3:Value} (h:Bk w b #[v0,v1,v2,v3,(idT ts (ch 0):Int),(idT ts (ch 1):Int),(idT ts (ch 2):Int),(idT ts (ch 3):Int),(idT ts (ch 4):Int),(idT ts (ch 5):Int),(idT ts (ch 6):Int),(idT ts (ch 7):Int)] 101) : ∀ k:Fin 8,w.cell? ⟨b,4+k.val,none⟩=some (.int .i64 (idT ts (ch k):Int)) :=
 fin8 (P:=fun k=>w.cell? ⟨b,4+k.val,none⟩=some (.int .i64 (idT ts (ch k):Int))) (h.cell 4 rfl) (h.cell 5 rfl) (h.cell 6 rfl) (h.cell 7 rfl) (h.cell 8 rfl) (h.cell 9 rfl) (h.cell 10 rfl) (h.cell 11 rfl)
theorem zJ3 (w:World) (Far:Nat→Prop) (sb:Nat) (most:Int) (ts:List Tr) (t:Tr) (ht:t∈ts) (n:Nat) (hn:n≤12) (hD:Dep n t) (hG:Good ts) (_hlen:ts.length≤1000000000000) (px py pz:Int) (hin:inB ⟨px,py,pz⟩ (zy (2 ^ (n+2)))=true) (hS:StoreIs w Far sb most ts) :
 Calls Tryz.prog 12 #[.pointer (some ⟨sb,0,none⟩),(idT ts t:Int),.int .i64 ((n:Int)+2),.agg #[px,py,pz]] w fun e w'=>e = .returned (.int .i64 (Tr.getT t n ⟨px,py,pz⟩))∧Below w.heap.size w w':=by
 have h1:=Bx.mk (fun W=>zA2 (n+2) (by omega) px py pz W)
 rw [hin] at h1;rw [show ((n+2:Nat):Int)=(n:Int)+2 by omega] at h1
 have hp:Bx ((0≤px∧px≤100000)∧(0≤py∧py≤100000)∧(0≤pz∧pz≤100000)):=⟨by
  have hl:=(zV (show n+2≤14 by omega)).2
  have:=zX.1 hin;simp only [zy,Pt.zero] at this;omega⟩
 have HS:=Bx.mk hS;have HG:=Bx.mk hG;obtain ⟨r,hr⟩ : ∃ r,r=Tr.getT t n ⟨px,py,pz⟩:=⟨_,rfl⟩;have HR:Bx (t∈ts∧Dep n t∧Tr.getT t n ⟨px,py,pz⟩=r):=Bx.mk (And.intro ht (And.intro hD hr.symm));rw [←hr];clear hr;clear hin hS hG ht hD;go_enter Tryz.func12,Tryz.ntmps12;go_wp2_with fail;generalize hW:World.alloc w _=W;have hSz:=sz1 hW;have hB:=bl1 hW;have kp:Bk W (w.heap.size) #[px,py,pz] 23:=bk0 hW;clear hW;refine (h1.out _).mono ?_;rintro e w1 ⟨rfl,hb⟩;replace hB:=Bx.mk (hB.trans (hb.mono hB.size));replace kp:=Bx.mk (kp.later hb);clear hb hSz h1;go_wp2_with fail
 go_loopw [1,2] (fun vi vd wr => ∃ (m:Nat) (u:Tr),vi = .int .i64 (idT ts u:Int)∧vd = .int .i64 ((m:Int)+2)∧m≤12∧Bx (u∈ts∧Dep m u∧Tr.getT u m ⟨px,py,pz⟩=r)∧Bx (Below w.heap.size w wr)∧Bx (Bk wr w.heap.size #[px,py,pz] 23)) (fun _ vd _=>(intOf vd).toNat)
 case atStart=>exact ⟨n,t,rfl,rfl,hn,HR,hB,kp⟩
 case round =>
  clear HR hB kp;obtain ⟨m,u,rfl,rfl,hm,HR,hB,kp⟩:=hrel;obtain ⟨hu,hD,hr⟩:=HR.out;have hSr:=HS.out.later hB.out;have hby:=HG.out.bytes u hu;cases hD with
  | uni _ c =>
    obtain ⟨g,cap,mb,ks,hi,hc⟩:=Bx.node hSr hu (k:=1) (c:=c) rfl;have cs1:=ks.cell 1 rfl;have b1:(0:Int)≤(idT ts (.uni c):Int):=by omega
    have b2:(idT ts (.uni c):Int)<(ts.length:Int):=by omega
    have hr:=Bx.mk (show c=r from hr);have d0:wr.cell? ⟨g,idT ts (.uni c) * 12,none⟩=some (.int .i64 1):=hc.out 0 _ (by omega) rfl
    have d1:wr.cell? ⟨g,idT ts (.uni c) * 12+1,none⟩=some (.int .i64 c):=hc.out 1 _ (by omega) rfl
    have d2:wr.cell? ⟨g,idT ts (.uni c) * 12+2,none⟩=some (.string ByteArray.empty):=hc.out 2 _ (by omega) rfl
    have d3:wr.cell? ⟨g,idT ts (.uni c) * 12+3,none⟩=some (.int .i64 0):=hc.out 3 _ (by omega) rfl
    have d4:wr.cell? ⟨g,idT ts (.uni c) * 12+4,none⟩=some (.int .i64 0):=hc.out 4 _ (by omega) rfl
    have d5:wr.cell? ⟨g,idT ts (.uni c) * 12+5,none⟩=some (.int .i64 0):=hc.out 5 _ (by omega) rfl
    have d6:wr.cell? ⟨g,idT ts (.uni c) * 12+6,none⟩=some (.int .i64 0):=hc.out 6 _ (by omega) rfl
    have d7:wr.cell? ⟨g,idT ts (.uni c) * 12+7,none⟩=some (.int .i64 0):=hc.out 7 _ (by omega) rfl
    have d8:wr.cell? ⟨g,idT ts (.uni c) * 12+8,none⟩=some (.int .i64 0):=hc.out 8 _ (by omega) rfl
    have d9:wr.cell? ⟨g,idT ts (.uni c) * 12+9,none⟩=some (.int .i64 0):=hc.out 9 _ (by omega) rfl
    have d10:wr.cell? ⟨g,idT ts (.uni c) * 12+10,none⟩=some (.int .i64 0):=hc.out 10 _ (by omega) rfl
    have d11:wr.cell? ⟨g,idT ts (.uni c) * 12+11,none⟩=some (.int .i64 0):=hc.out 11 _ (by omega) rfl
    clear ks hc HS HG HR hSr hby hu;go_wp2_with fail;go_ret;exact ⟨zY hr.out,hB.out.alloc hB.out.size _⟩
  | brick l =>
    obtain ⟨g,cap,mb,ks,hi,hc⟩:=Bx.node hSr hu (k:=2) (s:=strOfNums l) rfl;have cs1:=ks.cell 1 rfl;have b1:(0:Int)≤(idT ts (.brick l):Int):=by omega
    have b2:(idT ts (.brick l):Int)<(ts.length:Int):=by omega
    have hk:Tr.idx ⟨px,py,pz⟩<l.length:=by rw [(hby.bricks l rfl).1];exact Tr.idx_lt _
    have hx:=List.getElem?_eq_getElem hk
    have hr2:l[Tr.idx ⟨px,py,pz⟩]=r:=by
     rw [←hr];unfold Tr.getT;rw [Tr.getD_el hk]
    rw [hr2] at hx;have hrr:=(hby.bricks l rfl).2 _ (List.mem_of_getElem? hx);have hix:=fun W=>zJz (P:=Tryz.prog) 9 Tryz.underlying9 (hby.bricks l rfl).2 hx W;have d0:wr.cell? ⟨g,idT ts (.brick l) * 12,none⟩=some (.int .i64 2):=hc.out 0 _ (by omega) rfl
    have d1:wr.cell? ⟨g,idT ts (.brick l) * 12+1,none⟩=some (.int .i64 0):=hc.out 1 _ (by omega) rfl
    have d2:wr.cell? ⟨g,idT ts (.brick l) * 12+2,none⟩=some (.string (strOfNums l)):=hc.out 2 _ (by omega) rfl
    have d3:wr.cell? ⟨g,idT ts (.brick l) * 12+3,none⟩=some (.int .i64 2):=hc.out 3 _ (by omega) rfl
    have d4:wr.cell? ⟨g,idT ts (.brick l) * 12+4,none⟩=some (.int .i64 0):=hc.out 4 _ (by omega) rfl
    have d5:wr.cell? ⟨g,idT ts (.brick l) * 12+5,none⟩=some (.int .i64 0):=hc.out 5 _ (by omega) rfl
    have d6:wr.cell? ⟨g,idT ts (.brick l) * 12+6,none⟩=some (.int .i64 0):=hc.out 6 _ (by omega) rfl
    have d7:wr.cell? ⟨g,idT ts (.brick l) * 12+7,none⟩=some (.int .i64 0):=hc.out 7 _ (by omega) rfl
    have d8:wr.cell? ⟨g,idT ts (.brick l) * 12+8,none⟩=some (.int .i64 0):=hc.out 8 _ (by omega) rfl
    have d9:wr.cell? ⟨g,idT ts (.brick l) * 12+9,none⟩=some (.int .i64 0):=hc.out 9 _ (by omega) rfl
    have d10:wr.cell? ⟨g,idT ts (.brick l) * 12+10,none⟩=some (.int .i64 0):=hc.out 10 _ (by omega) rfl
    have d11:wr.cell? ⟨g,idT ts (.brick l) * 12+11,none⟩=some (.int .i64 0):=hc.out 11 _ (by omega) rfl
    have hpp:=hp.out;obtain ⟨x4,hx4⟩ : ∃ x4,x4=px % 4:=⟨_,rfl⟩;obtain ⟨y4,hy4⟩ : ∃ y4,y4=py % 4:=⟨_,rfl⟩;obtain ⟨z4,hz4⟩ : ∃ z4,z4=pz % 4:=⟨_,rfl⟩;have e1:bits .and .i64 px 3=x4:=by rw [hx4];exact zBl px (by omega) (by omega)
    have e2:bits .and .i64 py 3=y4:=by rw [hy4];exact zBl py (by omega) (by omega)
    have e3:bits .and .i64 pz 3=z4:=by rw [hz4];exact zBl pz (by omega) (by omega)
    have e4:bits .or .i64 (bits .or .i64 x4 (wrap64 (y4 * 4))) (wrap64 (z4 * 16))=(Tr.idx ⟨px,py,pz⟩:Int):=by
     rw [zG9 (by omega) (by omega) (by omega)]
     unfold Tr.idx;simp only [←hx4,←hy4,←hz4];omega
    have hwrap:IntKind.i64.wrap r=r:=IntWalk.i64_in _ (by omega)
    have al0 : ∀ o,(wr.alloc o).cell? ⟨w.heap.size,0,none⟩=some (.int .i64 px):=fun o=>(kp.out.alloc o).cell 0 rfl;have al1 : ∀ o,(wr.alloc o).cell? ⟨w.heap.size,1,none⟩=some (.int .i64 py):=fun o=>(kp.out.alloc o).cell 1 rfl;have al2 : ∀ o,(wr.alloc o).cell? ⟨w.heap.size,2,none⟩=some (.int .i64 pz):=fun o=>(kp.out.alloc o).cell 2 rfl;generalize Tr.idx ⟨px,py,pz⟩=kk at *;generalize strOfNums l=S at *;clear ks hc HS HG HR hSr hby hu hr hk hx hr2 hpp hp hx4 hy4 hz4;go_wp2_with fail;go_ret;exact ⟨rfl,hB.out.alloc hB.out.size _⟩
  | node m ch hch =>
    obtain ⟨g,cap,mb,ks,hi,hc⟩:=Bx.node hSr hu (k:=3) (s:=ByteArray.empty) rfl;have cs1:=ks.cell 1 rfl;have b1:(0:Int)≤(idT ts (.node (m+3) ch):Int):=by omega
    have b2:(idT ts (.node (m+3) ch):Int)<(ts.length:Int):=by omega
    have d0:wr.cell? ⟨g,idT ts (.node (m+3) ch) * 12,none⟩=some (.int .i64 3):=hc.out 0 _ (by omega) rfl
    have d1:wr.cell? ⟨g,idT ts (.node (m+3) ch) * 12+1,none⟩=some (.int .i64 0):=hc.out 1 _ (by omega) rfl
    have d2:wr.cell? ⟨g,idT ts (.node (m+3) ch) * 12+2,none⟩=some (.string ByteArray.empty):=hc.out 2 _ (by omega) rfl
    have d3:wr.cell? ⟨g,idT ts (.node (m+3) ch) * 12+3,none⟩=some (.int .i64 ((m+3:Nat):Int)):=hc.out 3 _ (by omega) rfl
    have d4:wr.cell? ⟨g,idT ts (.node (m+3) ch) * 12+4,none⟩=some (.int .i64 (idT ts (ch 0):Int)):=hc.out 4 _ (by omega) rfl
    have d5:wr.cell? ⟨g,idT ts (.node (m+3) ch) * 12+5,none⟩=some (.int .i64 (idT ts (ch 1):Int)):=hc.out 5 _ (by omega) rfl
    have d6:wr.cell? ⟨g,idT ts (.node (m+3) ch) * 12+6,none⟩=some (.int .i64 (idT ts (ch 2):Int)):=hc.out 6 _ (by omega) rfl
    have d7:wr.cell? ⟨g,idT ts (.node (m+3) ch) * 12+7,none⟩=some (.int .i64 (idT ts (ch 3):Int)):=hc.out 7 _ (by omega) rfl
    have d8:wr.cell? ⟨g,idT ts (.node (m+3) ch) * 12+8,none⟩=some (.int .i64 (idT ts (ch 4):Int)):=hc.out 8 _ (by omega) rfl
    have d9:wr.cell? ⟨g,idT ts (.node (m+3) ch) * 12+9,none⟩=some (.int .i64 (idT ts (ch 5):Int)):=hc.out 9 _ (by omega) rfl
    have d10:wr.cell? ⟨g,idT ts (.node (m+3) ch) * 12+10,none⟩=some (.int .i64 (idT ts (ch 6):Int)):=hc.out 10 _ (by omega) rfl
    have d11:wr.cell? ⟨g,idT ts (.node (m+3) ch) * 12+11,none⟩=some (.int .i64 (idT ts (ch 7):Int)):=hc.out 11 _ (by omega) rfl
    have hpp:=hp.out;have ho:=Bx.mk (fun W dd hd=>zDZ m (by omega) dd hd px py pz hpp.1 hpp.2.1 hpp.2.2 W)
    have al0 : ∀ o,(wr.alloc o).cell? ⟨w.heap.size,0,none⟩=some (.int .i64 px):=fun o=>(kp.out.alloc o).cell 0 rfl;have al1 : ∀ o,(wr.alloc o).cell? ⟨w.heap.size,1,none⟩=some (.int .i64 py):=fun o=>(kp.out.alloc o).cell 1 rfl;have al2 : ∀ o,(wr.alloc o).cell? ⟨w.heap.size,2,none⟩=some (.int .i64 pz):=fun o=>(kp.out.alloc o).cell 2 rfl;have HR2:Bx (ch (Tr.oct m ⟨px,py,pz⟩)∈ts∧Dep m (ch (Tr.oct m ⟨px,py,pz⟩))∧Tr.getT (ch (Tr.oct m ⟨px,py,pz⟩)) m ⟨px,py,pz⟩=r):=⟨HG.out.closed.2 _ _ hu _,hch _,hr⟩;have hb0:=Bx.mk (hB.out.alloc hB.out.size (.cells #[(3:Int),(0:Int),.string ByteArray.empty,((m+3:Nat):Int),(idT ts (ch 0):Int),(idT ts (ch 1):Int),(idT ts (ch 2):Int),(idT ts (ch 3):Int),(idT ts (ch 4):Int),(idT ts (ch 5):Int),(idT ts (ch 6):Int),(idT ts (ch 7):Int)] 101));have kp0:=Bx.mk (kp.out.alloc (.cells #[(3:Int),(0:Int),.string ByteArray.empty,((m+3:Nat):Int),(idT ts (ch 0):Int),(idT ts (ch 1):Int),(idT ts (ch 2):Int),(idT ts (ch 3):Int),(idT ts (ch 4):Int),(idT ts (ch 5):Int),(idT ts (ch 6):Int),(idT ts (ch 7):Int)] 101));have kn0:=Bx.mk (Bk.new wr #[(3:Int),(0:Int),.string ByteArray.empty,((m+3:Nat):Int),(idT ts (ch 0):Int),(idT ts (ch 1):Int),(idT ts (ch 2):Int),(idT ts (ch 3):Int),(idT ts (ch 4):Int),(idT ts (ch 5):Int),(idT ts (ch 6):Int),(idT ts (ch 7):Int)] 101);clear ks hc HS HG HR hSr hby hu hr hpp hp hch;go_wp2_with fail;refine (ho.out _ _ (by omega)).mono ?_
    rintro e w2 ⟨rfl,hb2⟩;have kn2:=Bx.mk (zLc (kn0.out.later hb2));replace hb0:=Bx.mk (hb0.out.trans (hb2.mono hb0.out.size));replace kp0:=Bx.mk (kp0.out.later hb2);clear hb2 kn0 ho d0 d1 d2 d3 d4 d5 d6 d7 d8 d9 d10 d11 al0 al1 al2;generalize Tr.oct m ⟨px,py,pz⟩=kk at *;have hkid:=kn2.out kk;have hk8:=kk.isLt;have b3:(0:Int)≤(kk.val:Int):=by omega
    have b4:(kk.val:Int)<8:=by omega
    clear kn2;go_wp2_with fail
    go_roundw
    case rel=>exact ⟨m,_,rfl,by go_num,by omega,HR2,hb0,kp0⟩
    case measure=>simp [intOf];omega
end Go.Proofs.YtfcbajmjaifjlaaGreatDoor
end
