/- ET1, ET2, ET3, ET4: joined by program, for one claim. -/
import Derived.Test.YtgnfgblkpnfcnaaGreatDoorM42
set_option maxHeartbeats 400000
set_option linter.unusedVariables false
set_option linter.unusedSimpArgs false
section
namespace Go.Proofs.YtgnfgblkpnfcnaaGreatDoor.PalE
set_option maxRecDepth 100000
open Go.RowKit
theorem idx_lt {xs:List Int} {c:Int} (h:c∈xs):xs.idxOf c<xs.length:=List.idxOf_lt_length_of_mem h
theorem zFG {xs:List Int} {c:Int} (h:c ∉ xs):xs.idxOf c=xs.length:=List.idxOf_eq_length h
theorem zFH {xs:List Int} {c:Int} {k:Nat} (hk:xs[k]? = some c) (h:c ∉ xs.take k):xs.idxOf c=k:=by
 obtain ⟨hl,rfl⟩:=List.getElem?_eq_some_iff.1 hk;have hs:xs=xs.take k++xs[k]::xs.drop (k+1):=by simp
 have hlen:(xs.take k).length=k:=by simp;omega
 generalize hc:xs[k]=c at *;rw [hs,List.idxOf_append,if_neg h];simp [hlen]
theorem zIa {xs:List Int} {c x:Int} {k:Nat} (hk:xs[k]? = some x) (h:c ∉ xs.take k) (hne : ¬x=c):c ∉ xs.take (k+1):=by
 rw [List.take_add_one,hk];simp [h];exact fun e=>hne e.symm
theorem zKl (a:Option Addr) (cap:Nat) (xs:List Int) (c:Int) (w:World) (hl:xs.length≤1000000000) (h:Sl w .i64 a xs) :
 Calls Tryz.prog 147 #[.slice a xs.length cap,c] w fun e w'=>e = .returned (.int .i64 (xs.idxOf c:Nat))∧w=w':=by
 generalize hn:xs.length=n at hl;have Hn:=Bx.mk hn;clear hn;go_enter Tryz.func147,Tryz.ntmps147;go_wp2
 go_loop [5] (fun i => ∃ k:Nat,k≤n∧i = .int .i64 k∧c ∉ xs.take k) (fun i=>n - (intOf i).toNat)
 case atStart=>exact ⟨0,Nat.zero_le _,rfl,by simp⟩
 case round =>
  obtain ⟨k,hk,rfl,hno⟩:=hrel;have Hno:=Bx.mk hno;clear hno;by_cases hlt:k<n
  · obtain ⟨x,hx⟩:=zBT Hn hlt;obtain ⟨b,off,rfl,hc⟩:=h k x hx;have Hx:=Bx.mk hx;clear h hx;by_cases hec:x=c
    · have hb:(x == c)=true:=by simp [hec]
      have hf:=Bx.mk (zFH (hec ▸ Hx.out) Hno.out);clear hec;go_wp2;go_ret;exact ⟨zLL hf.out.symm,rfl⟩
    · have hb:(x == c)=false:=by simp [hec]
      have hno':=Bx.mk (zIa Hx.out Hno.out hec);clear hec;go_wp2;go_round
      case rel=>exact ⟨k+1,by omega,by go_num,hno'.out⟩
      case measure=>simp [intOf];omega
  · have hkn:k=n:=by omega
    have hf:=Bx.mk (show xs.idxOf c=n by rw [←Hn.out];exact zFG (by have:=Hno.out;rw [hkn,←Hn.out] at this;simpa using this))
    clear hkn;go_wp2;go_ret;exact ⟨zLL hf.out.symm,rfl⟩
theorem zKv (a:Option Addr) (cap:Nat) (xs:List Int) (w:World) (hl:xs.length≤1000000) (h:Sl w .i64 a xs) :
 Calls Tryz.prog 145 #[.slice a xs.length cap] w fun e w' =>
  ∃ v,e = .returned v∧Own w' w.heap.size 3 .i64 v (Pal.diff xs)∧Below w.heap.size w w':=by
 generalize hn:xs.length=n at hl;have Hn:=Bx.mk hn;clear hn;have hB : ∃ B,B=w.heap.size:=⟨_,rfl⟩;go_enter Tryz.func145,Tryz.ntmps145;go_wp2
 go_loopw [3,4] (fun v i wr => ∃ k:Nat,k≤n∧i = .int .i64 k∧Own wr w.heap.size 3 .i64 v (Pal.diff (xs.take k))∧Below w.heap.size w wr) (fun _ i _=>n - (intOf i).toNat)
 case atStart=>exact ⟨0,Nat.zero_le _,rfl,Own.nil _ _ _ _,Below.refl _ _⟩
 case round =>
  obtain ⟨k,hk,rfl,hown,hbel⟩:=hrel;by_cases hlt:k<n
  · obtain ⟨x,hx⟩:=zBT Hn hlt;have hrec:=Bx.mk (Pal.diff_take xs k x hx);have hpl:=Pal.diff_length_take xs k;obtain ⟨b,off,rfl,hc⟩:=h.below hbel k x hx;clear h hx;generalize Pal.diff (xs.take k)=p at *;obtain ⟨pa,pc,rfl,hsl⟩:=hown.form;by_cases hmem:x∈p
    · have hb:(((p.idxOf x:Nat):Int) == (p.length:Int))=false:=by have:=idx_lt hmem;simp;omega
      have hadd:=Bx.mk (show Pal.add p x=p by simp [Pal.add,hmem])
      clear hmem;go_wp2_with (go_at_call 147;refine (zKl pa pc p x _ (by omega) hsl).mono ?_;rintro e w' ⟨rfl,rfl⟩)
      go_roundw
      case rel=>exact ⟨k+1,by omega,by go_num,by rw [hrec.out,hadd.out];exact hown,hbel⟩
      case measure=>simp [intOf];omega
    · have hb:(((p.idxOf x:Nat):Int) == (p.length:Int))=true:=by rw [zFG hmem];simp
      have hadd:=Bx.mk (show Pal.add p x=p++[x] by simp [Pal.add,hmem])
      clear hmem
      go_wp2_with (first
       | (go_at_call 147;refine (zKl pa pc p x _ (by omega) hsl).mono ?_;rintro e w' ⟨rfl,rfl⟩)
       | (at_builtin
          refine zAF rfl _ _ 26 rfl 3 .i64 (.int .i64 0) 8 (by omega) Tryz.underlying26 (by kernel_rfl) rfl w.heap.size _ p rfl (hown.alloc _) x ⟨wr.heap.size,0,none⟩ 1 rfl (zH _ _ _) (by omega) (ze hbel.size _) ?_
          intro v1 w1 hown1 hg1 _))
      go_roundw
      case rel=>exact ⟨k+1,by omega,by go_num,by rw [hrec.out,hadd.out];exact hown1,(hbel.alloc hbel.size _).grown hg1 (ze hbel.size _) (fun g hg=>(hown.lt g hg).1)⟩
      case measure=>simp [intOf];omega
  · have hkn:k=n:=by omega
    rw [hkn,←Hn.out,List.take_length] at hown;clear hkn;go_wp2;go_ret;exact ⟨_,rfl,hown,hbel⟩
end Go.Proofs.YtgnfgblkpnfcnaaGreatDoor.PalE
namespace Go.Proofs.YtgnfgblkpnfcnaaGreatDoor.PalE
set_option maxRecDepth 100000
open Go.RowKit
theorem zKb (c:Int) (w:World):Calls Tryz.prog 175 #[c] w fun e w'=>e = .returned (.bool (Pal.cell c))∧w=w':=by
 by_cases h1:0≤c <;> by_cases h2:c≤255
 all_goals
  have hr:Bx (Pal.cell c=(decide (0≤c) && decide (c≤255))):=⟨rfl⟩;go_enter Tryz.func175,Tryz.ntmps175;go_wp2;go_ret;exact ⟨zr (by rw [hr.out];simp [*]),rfl⟩
theorem zNq (c:Int) (w:World):Calls Tryz.prog 180 #[c] w fun e w'=>e = .returned (.bool (!Pal.cell c))∧w=w':=by
 by_cases h1:0≤c <;> by_cases h2:c≤255
 all_goals
  have hr:Bx (Pal.cell c=(decide (0≤c) && decide (c≤255))):=⟨rfl⟩;go_enter Tryz.func180,Tryz.ntmps180;go_wp2;go_ret;exact ⟨zr (by rw [hr.out];simp [*]),rfl⟩
theorem zOB (m:Nat) (w:World) (hm:m≤1000000):Calls Tryz.prog 146 #[(m:Int)] w fun e w'=>e = .returned (.int .i64 (Pal.width m:Nat))∧w=w':=by
 have hr:Bx (Pal.width m=if m≤1 then 0 else if m≤2 then 1 else if m≤4 then 2 else if m≤16 then 4 else 8):=⟨rfl⟩;go_enter Tryz.func146,Tryz.ntmps146;go_wp2
 all_goals
  go_ret;exact ⟨zt (by rw [hr.out];split <;> (try split) <;> (try split) <;> (try split) <;> omega),rfl⟩
theorem zOA (m:Nat) (w:World) (hm:m≤64):Calls Tryz.prog 168 #[(m:Int)] w fun e w'=>e = .returned (.int .i64 (Pal.width m:Nat))∧Below w.heap.size w w':=by
 have hr:Bx (Pal.width m=if m≤1 then 0 else if m≤2 then 1 else if m≤4 then 2 else if m≤16 then 4 else 8):=⟨rfl⟩;have i0 : ∀ w,(Instr.index 196 (.agg #[(1:Int),(0:Int),(2:Int),(1:Int),(4:Int),(2:Int),(16:Int),(4:Int),(64:Int),(8:Int)]) (.int .i64 0)).run Tryz.prog w = .ok (.agg #[(1:Int),(0:Int)]) w:=fun _=>by kernel_rfl
 have i1 : ∀ w,(Instr.index 196 (.agg #[(1:Int),(0:Int),(2:Int),(1:Int),(4:Int),(2:Int),(16:Int),(4:Int),(64:Int),(8:Int)]) (.int .i64 1)).run Tryz.prog w = .ok (.agg #[(2:Int),(1:Int)]) w:=fun _=>by kernel_rfl
 have i2 : ∀ w,(Instr.index 196 (.agg #[(1:Int),(0:Int),(2:Int),(1:Int),(4:Int),(2:Int),(16:Int),(4:Int),(64:Int),(8:Int)]) (.int .i64 2)).run Tryz.prog w = .ok (.agg #[(4:Int),(2:Int)]) w:=fun _=>by kernel_rfl
 have i3 : ∀ w,(Instr.index 196 (.agg #[(1:Int),(0:Int),(2:Int),(1:Int),(4:Int),(2:Int),(16:Int),(4:Int),(64:Int),(8:Int)]) (.int .i64 3)).run Tryz.prog w = .ok (.agg #[(16:Int),(4:Int)]) w:=fun _=>by kernel_rfl
 have i4 : ∀ w,(Instr.index 196 (.agg #[(1:Int),(0:Int),(2:Int),(1:Int),(4:Int),(2:Int),(16:Int),(4:Int),(64:Int),(8:Int)]) (.int .i64 4)).run Tryz.prog w = .ok (.agg #[(64:Int),(8:Int)]) w:=fun _=>by kernel_rfl
 go_enter Tryz.func168,Tryz.ntmps168;go_wp2
 go_loopw [3,12] (fun v i wr=>((i = .int .i64 0)∨(i = .int .i64 1∧1<m)∨(i = .int .i64 2∧2<m)∨(i = .int .i64 3∧4<m)∨(i = .int .i64 4∧16<m))∧Below w.heap.size w wr) (fun _ i _=>5 - (intOf i).toNat)
 case atStart=>exact ⟨.inl rfl,Below.refl _ _⟩
 case round =>
  obtain ⟨hrel,hbel⟩:=hrel;have hs:=hbel.size;rcases hrel with rfl | ⟨rfl,hm1⟩ | ⟨rfl,hm1⟩ | ⟨rfl,hm1⟩ | ⟨rfl,hm1⟩
  · by_cases hle:m≤1
    · go_wp2;go_ret;exact ⟨zt (by rw [hr.out];split <;> (try split) <;> (try split) <;> (try split) <;> omega),hbel.alloc hs _⟩
    · go_wp2
      go_roundw
      case rel=>exact ⟨by simp;omega,hbel.alloc hs _⟩
      case measure=>simp [intOf]
  · by_cases hle:m≤2
    · go_wp2;go_ret;exact ⟨zt (by rw [hr.out];split <;> (try split) <;> (try split) <;> (try split) <;> omega),hbel.alloc hs _⟩
    · go_wp2
      go_roundw
      case rel=>exact ⟨by simp;omega,hbel.alloc hs _⟩
      case measure=>simp [intOf]
  · by_cases hle:m≤4
    · go_wp2;go_ret;exact ⟨zt (by rw [hr.out];split <;> (try split) <;> (try split) <;> (try split) <;> omega),hbel.alloc hs _⟩
    · go_wp2
      go_roundw
      case rel=>exact ⟨by simp;omega,hbel.alloc hs _⟩
      case measure=>simp [intOf]
  · by_cases hle:m≤16
    · go_wp2;go_ret;exact ⟨zt (by rw [hr.out];split <;> (try split) <;> (try split) <;> (try split) <;> omega),hbel.alloc hs _⟩
    · go_wp2
      go_roundw
      case rel=>exact ⟨by simp;omega,hbel.alloc hs _⟩
      case measure=>simp [intOf]
  · by_cases hle:m≤64
    · go_wp2;go_ret;exact ⟨zt (by rw [hr.out];split <;> (try split) <;> (try split) <;> (try split) <;> omega),hbel.alloc hs _⟩
    · omega
end Go.Proofs.YtgnfgblkpnfcnaaGreatDoor.PalE
namespace Go.Proofs.YtgnfgblkpnfcnaaGreatDoor.PalE
set_option maxRecDepth 100000
open Go.RowKit
theorem zBA {xs:List Int} {k:Nat} {x:Int} {f:Int→Bool} (hx:xs[k]? = some x) (h:(xs.take k).all f=true) (hf:f x=true):(xs.take (k+1)).all f=true:=by
 rw [List.take_add_one,hx];simp [h,hf]
theorem zBB {xs:List Int} {k:Nat} {x:Int} {f:Int→Bool} (hx:xs[k]? = some x) (hf:f x=false):xs.all f=false:=by
 obtain ⟨hl,rfl⟩:=List.getElem?_eq_some_iff.1 hx;rw [List.all_eq_false];exact ⟨_,List.getElem_mem hl,by simp [hf]⟩
theorem zA9 {xs:List Int} {n:Nat} {f:Int→Bool} (hn:Bx (xs.length=n)) (h:(xs.take n).all f=true):xs.all f=true:=by
 rw [←hn.out,List.take_length] at h;exact h
theorem zKc (a:Option Addr) (cap:Nat) (xs:List Int) (w:World) (hl:xs.length≤1000000000) (h:Sl w .i64 a xs) :
 Calls Tryz.prog 144 #[.slice a xs.length cap] w fun e w'=>e = .returned (.bool (xs.all Pal.cell))∧w=w':=by
 generalize hn:xs.length=n at hl;have Hn:=Bx.mk hn;clear hn;go_enter Tryz.func144,Tryz.ntmps144;go_wp2
 go_loop [3] (fun i => ∃ k:Nat,k≤n∧i = .int .i64 k∧(xs.take k).all Pal.cell=true) (fun i=>n - (intOf i).toNat)
 case atStart=>exact ⟨0,Nat.zero_le _,rfl,by simp⟩
 case round =>
  obtain ⟨k,hk,rfl,hall⟩:=hrel;have Hall:=Bx.mk hall;clear hall;by_cases hlt:k<n
  · obtain ⟨x,hx⟩:=zBT Hn hlt;obtain ⟨b,off,rfl,hc⟩:=h k x hx;have Hx:=Bx.mk hx;clear h hx;cases hcx:Pal.cell x with
    | false =>
      have hf:=Bx.mk (zBB Hx.out hcx);go_wp2_with (go_at_call 175;refine (zKb x _).mono ?_;rintro e w' ⟨rfl,rfl⟩);go_ret;exact ⟨zr hf.out.symm,rfl⟩
    | true =>
      have hf:=Bx.mk (zBA Hx.out Hall.out hcx);go_wp2_with (go_at_call 175;refine (zKb x _).mono ?_;rintro e w' ⟨rfl,rfl⟩);go_round
      case rel=>exact ⟨k+1,by omega,by go_num,hf.out⟩
      case measure=>simp [intOf];omega
  · have hkn:k=n:=by omega
    have hf:=Bx.mk (zA9 Hn (hkn ▸ Hall.out));clear hkn;go_wp2;go_ret;exact ⟨zr hf.out.symm,rfl⟩
theorem zFV (a:Option Addr) (cap:Nat) (xs:List Int) (w:World) (hl:xs.length≤1000000000) (h:Sl w .i64 a xs) :
 Calls Tryz.prog 152 #[.slice a xs.length cap,.func (.func 180) #[] #[]] w fun e w'=>(∃ r:Int,e = .returned (.int .i64 r)∧(decide (0≤r) = !xs.all Pal.cell))∧w=w':=by
 generalize hn:xs.length=n at hl;have Hn:=Bx.mk hn;clear hn;go_enter Tryz.func152,Tryz.ntmps152;go_wp2
 go_loop [8] (fun i => ∃ k:Nat,k≤n∧i = .int .i64 k∧(xs.take k).all Pal.cell=true) (fun i=>n - (intOf i).toNat)
 case atStart=>exact ⟨0,Nat.zero_le _,rfl,by simp⟩
 case round =>
  obtain ⟨k,hk,rfl,hall⟩:=hrel;have Hall:=Bx.mk hall;clear hall;by_cases hlt:k<n
  · obtain ⟨x,hx⟩:=zBT Hn hlt;obtain ⟨b,off,rfl,hc⟩:=h k x hx;have Hx:=Bx.mk hx;clear h hx;cases hcx:Pal.cell x with
    | false =>
      have hf:=Bx.mk (zBB Hx.out hcx);go_wp2_with (go_at_call 180;refine (zNq x _).mono ?_;rintro e w' ⟨rfl,rfl⟩);go_ret;exact ⟨⟨_,rfl,by rw [hf.out];simp⟩,rfl⟩
    | true =>
      have hf:=Bx.mk (zBA Hx.out Hall.out hcx);go_wp2_with (go_at_call 180;refine (zNq x _).mono ?_;rintro e w' ⟨rfl,rfl⟩);go_round
      case rel=>exact ⟨k+1,by omega,by go_num,hf.out⟩
      case measure=>simp [intOf];omega
  · have hkn:k=n:=by omega
    have hf:=Bx.mk (zA9 Hn (hkn ▸ Hall.out));clear hkn;go_wp2;go_ret;exact ⟨⟨_,rfl,by rw [hf.out];simp⟩,rfl⟩
theorem zCs (a:Option Addr) (cap:Nat) (xs:List Int) (w:World) (hl:xs.length≤1000000000) (h:Sl w .i64 a xs) :
 Calls Tryz.prog 118 #[.slice a xs.length cap,.func (.func 180) #[] #[]] w fun e w'=>e = .returned (.bool (!xs.all Pal.cell))∧w=w':=by
 go_enter Tryz.func118,Tryz.ntmps118;go_wp2_with (go_at_call 152;refine (zFV a cap xs _ hl h).mono ?_;rintro e w' ⟨⟨r,rfl,hr⟩,rfl⟩;have Hr:=Bx.mk hr;clear hr);go_ret;exact ⟨zr Hr.out,rfl⟩
theorem zNt (a:Option Addr) (cap:Nat) (xs:List Int) (w:World) (hl:xs.length≤1000000000) (h:Sl w .i64 a xs) :
 Calls Tryz.prog 165 #[.slice a xs.length cap] w fun e w'=>e = .returned (.bool (xs.all Pal.cell))∧w=w':=by
 go_enter Tryz.func165,Tryz.ntmps165;go_wp2_with (go_at_call 118;refine (zCs a cap xs _ hl h).mono ?_;rintro e w' ⟨rfl,rfl⟩);go_ret;exact ⟨zr (by simp),rfl⟩
theorem zMH (a:Option Addr) (cap:Nat) (xs:List Int) (c:Int) (w:World) (hl:xs.length≤1000000000) (h:Sl w .i64 a xs) :
 Calls Tryz.prog 170 #[.slice a xs.length cap,c] w fun e w'=>e = .returned (.int .i64 (Pal.find xs c))∧w=w':=by
 generalize hn:xs.length=n at hl;have Hn:=Bx.mk hn;clear hn;go_enter Tryz.func170,Tryz.ntmps170;go_wp2
 go_loop [8] (fun i => ∃ k:Nat,k≤n∧i = .int .i64 k∧c ∉ xs.take k) (fun i=>n - (intOf i).toNat)
 case atStart=>exact ⟨0,Nat.zero_le _,rfl,by simp⟩
 case round =>
  obtain ⟨k,hk,rfl,hno⟩:=hrel;have Hno:=Bx.mk hno;clear hno;by_cases hlt:k<n
  · obtain ⟨x,hx⟩:=zBT Hn hlt;obtain ⟨b,off,rfl,hc⟩:=h k x hx;have Hx:=Bx.mk hx;clear h hx;by_cases hec:x=c
    · have hb:(x == c)=true:=by simp [hec]
      have hb':(c == x)=true:=by simp [hec]
      have hf:=Bx.mk (zFH (hec ▸ Hx.out) Hno.out);have hm:Bx (c∈xs):=⟨by have:=Hx.out;rw [hec] at this;exact List.mem_of_getElem? this⟩
      clear hec;go_wp2;go_ret;exact ⟨zt (by rw [Pal.find_pos hm.out,hf.out]),rfl⟩
    · have hb:(x == c)=false:=by simp [hec]
      have hb':(c == x)=false:=by simp;exact fun e=>hec e.symm
      have hno':=Bx.mk (zIa Hx.out Hno.out hec);clear hec;go_wp2;go_round
      case rel=>exact ⟨k+1,by omega,by go_num,hno'.out⟩
      case measure=>simp [intOf];omega
  · have hkn:k=n:=by omega
    have hf:Bx (c ∉ xs):=Bx.mk (by have:=Hno.out;rw [hkn,←Hn.out] at this;simpa using this)
    clear hkn;go_wp2;go_ret;exact ⟨zt (by rw [Pal.find_neg hf.out]),rfl⟩
theorem zMG (a:Option Addr) (cap:Nat) (xs:List Int) (c:Int) (w:World) (hl:xs.length≤1000000000) (h:Sl w .i64 a xs) :
 Calls Tryz.prog 181 #[.slice a xs.length cap,c] w fun e w'=>e = .returned (.bool (decide (c∈xs)))∧w=w':=by
 by_cases hm:c∈xs
 all_goals
  have Hm:=Bx.mk hm;clear hm;go_enter Tryz.func181,Tryz.ntmps181;go_wp2_with (go_at_call 170;refine (zMH a cap xs c _ hl h).mono ?_;rintro e w' ⟨rfl,rfl⟩;first | rw [Pal.find_pos Hm.out] | rw [Pal.find_neg Hm.out]);go_ret;exact ⟨zr (by have:=Hm.out;simp [this]),rfl⟩
end Go.Proofs.YtgnfgblkpnfcnaaGreatDoor.PalE
namespace Go.Proofs.YtgnfgblkpnfcnaaGreatDoor.PalE
set_option maxRecDepth 100000
open Go.RowKit
theorem zDX (a:Option Addr) (cap:Nat) (xs:List Int) (w:World) (hl:xs.length≤1000000) (h:Sl w .i64 a xs) :
 Calls Tryz.prog 166 #[.slice a xs.length cap] w fun e w' =>
  ∃ v,e = .returned v∧Own w' w.heap.size 3 .i64 v (Pal.diff xs)∧Below w.heap.size w w':=by
 generalize hn:xs.length=n at hl;have Hn:=Bx.mk hn;clear hn;go_enter Tryz.func166,Tryz.ntmps166;go_wp2
 go_loopw [2,7] (fun v i wr => ∃ k:Nat,k≤n∧i = .int .i64 k∧Own wr w.heap.size 3 .i64 v (Pal.diff (xs.take k))∧Below w.heap.size w wr) (fun _ i _=>n - (intOf i).toNat)
 case atStart=>exact ⟨0,Nat.zero_le _,rfl,Own.nil _ _ _ _,Below.refl _ _⟩
 case round =>
  obtain ⟨k,hk,rfl,hown,hbel⟩:=hrel;by_cases hlt:k<n
  · obtain ⟨x,hx⟩:=zBT Hn hlt;have hrec:=Bx.mk (Pal.diff_take xs k x hx);have hpl:=Pal.diff_length_take xs k;obtain ⟨b,off,rfl,hc⟩:=h.below hbel k x hx;clear h hx;generalize Pal.diff (xs.take k)=p at *;obtain ⟨pa,pc,rfl,hsl⟩:=hown.form;by_cases hmem:x∈p
    · have hadd:=Bx.mk (show Pal.add p x=p by simp [Pal.add,hmem])
      have hd:=Bx.mk (show decide (x∈p)=true by simp [hmem])
      clear hmem;go_wp2_with (go_at_call 181;refine (zMG pa pc p x _ (by omega) hsl).mono ?_;rintro e w' ⟨rfl,rfl⟩;rw [hd.out])
      go_roundw
      case rel=>exact ⟨k+1,by omega,by go_num,by rw [hrec.out,hadd.out];exact hown,hbel⟩
      case measure=>simp [intOf];omega
    · have hadd:=Bx.mk (show Pal.add p x=p++[x] by simp [Pal.add,hmem])
      have hd:=Bx.mk (show decide (x∈p)=false by simp [hmem])
      clear hmem
      go_wp2_with (first
       | (go_at_call 181;refine (zMG pa pc p x _ (by omega) hsl).mono ?_;rintro e w' ⟨rfl,rfl⟩;rw [hd.out])
       | (at_builtin
          refine zAF rfl _ _ 26 rfl 3 .i64 (.int .i64 0) 8 (by omega) Tryz.underlying26 (by kernel_rfl) rfl w.heap.size _ p rfl (hown.alloc _) x ⟨wr.heap.size,0,none⟩ 1 rfl (zH _ _ _) (by omega) (ze hbel.size _) ?_
          intro v1 w1 hown1 hg1 _))
      go_roundw
      case rel=>exact ⟨k+1,by omega,by go_num,by rw [hrec.out,hadd.out];exact hown1,(hbel.alloc hbel.size _).grown hg1 (ze hbel.size _) (fun g hg=>(hown.lt g hg).1)⟩
      case measure=>simp [intOf];omega
  · have hkn:k=n:=by omega
    rw [hkn,←Hn.out,List.take_length] at hown;clear hkn;go_wp2;go_ret;exact ⟨_,rfl,hown,hbel⟩
end Go.Proofs.YtgnfgblkpnfcnaaGreatDoor.PalE
end
