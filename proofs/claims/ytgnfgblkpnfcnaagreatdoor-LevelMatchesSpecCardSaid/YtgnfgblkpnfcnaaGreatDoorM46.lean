/- EPut: joined by program, for one claim. -/
import Derived.Test.YtgnfgblkpnfcnaaGreatDoorM45
import Derived.StillTailTactics
set_option maxHeartbeats 1000000
set_option linter.unusedVariables false
set_option linter.unusedSimpArgs false
section
namespace Go.Proofs.YtgnfgblkpnfcnaaGreatDoor.PalE
set_option maxRecDepth 100000
open Go.RowKit
theorem zI1 (wd s B f:Nat) (hB:B<2 ^ s) (hf:f<2 ^ wd) (hs:s+wd≤8) :
 bits .or .u8 (B:Int) (IntKind.u8.wrap (IntKind.i64.wrap ((f:Int) * 2 ^ s)))=((B+f * 2 ^ s:Nat):Int):=by
 have h1:f * 2 ^ s+2 ^ s≤2 ^ (wd+s):=by rw [Nat.pow_add,←Nat.succ_mul];exact Nat.mul_le_mul_right _ hf
 have h2:2 ^ (wd+s)≤2 ^ 8:=Nat.pow_le_pow_right (by omega) (by omega)
 have h3:((f:Int) * 2 ^ s)=((f * 2 ^ s:Nat):Int):=by simp
 rw [h3,IntWalk.i64_in _ (by omega),IntWalk.u8_in _ (by omega),u8_or_nat _ _ (by omega) (by omega)]
 rw [Nat.or_comm,Nat.mul_comm,←Nat.two_pow_add_eq_or_of_lt hB,Nat.add_comm]
theorem zAv (wd s B f:Nat) (hB:B<2 ^ s) (hf:f<2 ^ wd) (hs:s+wd≤8) :
 IntKind.u8.wrap ((B:Int)+IntKind.u8.wrap (IntKind.i64.wrap ((f:Int) * 2 ^ s)))=((B+f * 2 ^ s:Nat):Int):=by
 have h1:f * 2 ^ s+2 ^ s≤2 ^ (wd+s):=by rw [Nat.pow_add,←Nat.succ_mul];exact Nat.mul_le_mul_right _ hf
 have h2:2 ^ (wd+s)≤2 ^ 8:=Nat.pow_le_pow_right (by omega) (by omega)
 have h3:((f:Int) * 2 ^ s)=((f * 2 ^ s:Nat):Int):=by simp
 have h4:IntKind.u8.wrap ((f * 2 ^ s:Nat):Int)=((f * 2 ^ s:Nat):Int):=IntWalk.u8_in _ (by omega)
 rw [h3,IntWalk.i64_in _ (by omega),h4,IntWalk.u8_in _ (by omega)]
 rfl
theorem zBu (wd:Nat) (hwd:Pal.Wd wd) (F:Nat→Nat) (k j s:Nat) (hF : ∀ i,i<k→F i<2 ^ wd) (hj:j=k * wd / 8) (hs:s=k * wd % 8):Pal.byt wd F k j<2 ^ s:=by
 obtain ⟨h1,h2,h3⟩:=Pal.byt_lt wd F hwd k hF j;by_cases h:k * wd≤8 * j
 · rw [h1 h];exact Nat.two_pow_pos _
 · have:=h2 (by omega) (by omega)
   rwa [show k * wd - 8 * j=s by omega] at this
theorem zJG (pp:Addr) (pa:Option Addr) (pc:Nat) (p:List Int) (c:Int) (w:World) (hl:p.length≤1000000) (hc:w.cell? pp=some (.slice pa p.length pc)) (h:Sl w .i64 pa p) :
 Calls Tryz.prog 169 #[c,.pointer (some pp)] w fun e w'=>e = .returned (.int .i64 (Pal.find p c))∧w=w':=by
 go_enter Tryz.func169,Tryz.ntmps169;go_wp2_with (go_at_call 170;refine (zMH pa pc p c _ (by omega) h).mono ?_;rintro e w' ⟨rfl,rfl⟩)
 go_ret;exact ⟨rfl,rfl⟩
theorem zJ2 (a:Option Addr) (cap:Nat) (xs:List Int) (pp:Addr) (pa:Option Addr) (pc:Nat) (p:List Int) (w:World) (hl:xs.length≤1000) (h:Sl w .i64 a xs)
 (hpl:p.length≤2 ^ 1) (hin : ∀ x,x∈xs→x∈p) (hc:w.cell? pp=some (.slice pa p.length pc)) (hp:Sl w .i64 pa p) :
 Calls Tryz.prog 167 #[.slice a xs.length cap,(1:Int),.func (.func 169) #[] #[.pointer (some pp)]] w fun e w' =>
  ∃ v,e = .returned v∧Own w' w.heap.size 5 .u8 v (Pal.packs 1 (fun i=>p.idxOf (xs.getD i 0)) xs.length)∧Below w.heap.size w w':=by
 generalize hn:xs.length=n at hl;have Hn:=Bx.mk hn;clear hn;obtain ⟨m,hm1,hm2,hm3⟩ : ∃ m,8 * m ≥ n * 1∧8 * m<n * 1+8∧m=(n * 1+7) / 8:=⟨(n * 1+7) / 8,by omega,by omega,rfl⟩
 have hmk : ∀ W,(Instr.makeSlice 84 (.int .i64 (((n:Int)+7) / 8)) (.int .i64 (((n:Int)+7) / 8))).run Tryz.prog W = .ok (.slice (some ⟨W.heap.size,0,none⟩) m m) (W.alloc (.cells (madeCells #[.int .u8 0] m) 5)):=by
  intro W;have:=run_make_row' (P:=Tryz.prog) 84 5 (.int .u8 0) 1 Tryz.underlying84 (by kernel_rfl) rfl .i64 .i64 m (by omega) (by omega) W
  have e:((m:Nat):Int)=((n:Int)+7) / 8:=by omega
  rw [e] at this;exact this
 have Hm3:=Bx.mk hm3;clear hm3;have hF:Bx (∀ k x,xs[k]? = some x→p.idxOf (xs.getD k 0)=p.idxOf x∧x∈p):=Bx.mk (fun k x hx=>⟨by simp [hx],hin x (List.mem_of_getElem? hx)⟩)
 clear hin;generalize hFd:(fun i=>p.idxOf (xs.getD i 0))=F;have hF':Bx (∀ k x,xs[k]? = some x→F k=p.idxOf x∧x∈p):=Bx.mk (by rw [←hFd];exact hF.out)
 have hFlt:Bx (∀ k,k<n→F k<2 ^ 1):=Bx.mk (fun k hk=>by
  obtain ⟨x,hx⟩:=zBT Hn hk;obtain ⟨h1,h2⟩:=hF'.out k x hx;rw [h1];exact Nat.lt_of_lt_of_le (idx_lt h2) hpl)
 have hpl2:p.length≤1000000:=Nat.le_trans hpl (by decide)
 clear hFd hF hpl;go_enter Tryz.func167,Tryz.ntmps167;go_wp2;clear hmk
 go_loopw [21] (fun i wr => ∃ k:Nat,k≤n∧i = .int .i64 k∧wr.rowIs w.heap.size 5 m (fun j=>.int .u8 (Pal.byt 1 F k j:Nat))∧Below w.heap.size w wr) (fun i _=>n - (intOf i).toNat)
 case atStart=>exact ⟨0,Nat.zero_le _,rfl,World.rowIs_made _ _ _ _,(Below.refl _ _).alloc (Nat.le_refl _) _⟩
 case round =>
  obtain ⟨k,hk,rfl,hrow,hbel⟩:=hrel;by_cases hlt:k<n
  · obtain ⟨x,hx⟩:=zBT Hn hlt;obtain ⟨b,off,rfl,hcx⟩:=h.below hbel k x hx;obtain ⟨hFk,hxp⟩:=hF'.out k x hx;have Hx:=Bx.mk hx;have HFk:=Bx.mk hFk;have hfind:=Bx.mk (Pal.find_pos hxp);clear h hx hFk hxp;have hc1:=cell_later hbel hc;have hp1:=hp.below hbel;obtain ⟨j,hj1,hj2,hj⟩ : ∃ j,8 * j≤k * 1∧k * 1<8 * j+8∧j=k * 1 / 8:=⟨k * 1 / 8,by omega,by omega,rfl⟩
    obtain ⟨s,hs1,hs⟩ : ∃ s,s+1≤8∧s=k * 1 % 8:=⟨k * 1 % 8,by omega,rfl⟩
    have e1:IntKind.i64.wrap ((k:Int))=(k:Int):=IntWalk.i64_in _ (by omega)
    have e2:IntKind.i64.wrap ((k:Int) / 8)=(j:Int):=by rw [IntWalk.i64_in _ (by omega)];omega
    have e3:IntKind.i64.wrap (((k:Int)).tdiv 8)=(j:Int):=by rw [IntWalk.i64_quo _ _ (by omega)];omega
    have e4:((k:Int)).tmod 8=(s:Int):=by rw [IntWalk.rem_in _ _ (by omega)];omega
    have hjm:j<m:=by omega
    have hjm':(j:Int)<(m:Int):=by omega
    have hj0:(0:Int)≤(j:Int):=by omega
    have hBs:=Bx.mk (zBu 1 (by unfold Pal.Wd;omega) F k j s (fun i hi=>hFlt.out i (by omega)) hj hs)
    have hFk2:=Bx.mk (hFlt.out k hlt);have Hj:=Bx.mk hj;have Hs:=Bx.mk hs;clear hj hs;have hb0:=hrow.cell hjm;have hf0:=hrow.frozen j
    have hcall:Calls Tryz.prog 169 #[x,.pointer (some pp)] wr.drew fun e w'=>e = .returned (.int .i64 (F k:Nat))∧w'=wr.drew :=
     (zJG pp pa pc p x wr.drew hpl2 hc1 hp1).mono (by rintro e w' ⟨rfl,rfl⟩;exact ⟨zt (by rw [hfind.out,←HFk.out]),rfl⟩)
    have Hcall:=Bx.mk hcall;clear hcall;generalize hBd:Pal.byt 1 F k j=B at hb0;have HBd:=Bx.mk hBd;clear hBd;go_wp2_with fail;refine wp_region_still_tail 18 (by kernel_rfl) (by kernel_rfl) ?_
    simp only [List.take_succ_cons,List.take_zero,List.drop_succ_cons,List.drop_zero]
    repeat still_step
    still_call Hcall.out
    repeat still_step
    refine wpStill_nil ?_;change wpList _ _ _ _ _ wr.drew;have hval:=Bx.mk (zI1 1 s B (F k) (HBd.out ▸ hBs.out) hFk2.out (by omega))
    rw [hval.out];go_wp2
    go_roundw
    case rel =>
     refine ⟨k+1,by omega,by go_num,?_,(hbel.drew).setCell (by simp) _⟩
     refine (hrow.drew.set j _).congr (fun j' hj'=>?_)
     show (if j'=j then _ else Value.int .u8 (Pal.byt 1 F k j':Nat))=Value.int .u8 ((Pal.byt 1 F k j'+if k * 1 / 8=j' then F k * 2 ^ (k * 1 % 8) else 0:Nat):Int)
     have hj:=Hj.out;by_cases e:j'=j
     · subst e;rw [if_pos rfl,if_pos hj.symm,HBd.out,Hs.out];simp
     · rw [if_neg e,if_neg (by omega)];rfl
    case measure=>simp [intOf];omega
  · have hkn:k=n:=by omega
    have hmm:=Hm3.out;rw [hkn] at hrow;clear hkn;go_wp2;go_ret;exact ⟨_,rfl,Own.ofRow (F:=fun j=>(Pal.byt 1 F n j:Nat)) hrow (Nat.le_refl _) (by simp only [maxLen];omega) (by rw [hmm];rfl),hbel⟩
theorem zJ3 (a:Option Addr) (cap:Nat) (xs:List Int) (pp:Addr) (pa:Option Addr) (pc:Nat) (p:List Int) (w:World) (hl:xs.length≤1000) (h:Sl w .i64 a xs)
 (hpl:p.length≤2 ^ 2) (hin : ∀ x,x∈xs→x∈p) (hc:w.cell? pp=some (.slice pa p.length pc)) (hp:Sl w .i64 pa p) :
 Calls Tryz.prog 167 #[.slice a xs.length cap,(2:Int),.func (.func 169) #[] #[.pointer (some pp)]] w fun e w' =>
  ∃ v,e = .returned v∧Own w' w.heap.size 5 .u8 v (Pal.packs 2 (fun i=>p.idxOf (xs.getD i 0)) xs.length)∧Below w.heap.size w w':=by
 generalize hn:xs.length=n at hl;have Hn:=Bx.mk hn;clear hn;obtain ⟨m,hm1,hm2,hm3⟩ : ∃ m,8 * m ≥ n * 2∧8 * m<n * 2+8∧m=(n * 2+7) / 8:=⟨(n * 2+7) / 8,by omega,by omega,rfl⟩
 have hmk : ∀ W,(Instr.makeSlice 84 (.int .i64 (((n:Int) * 2+7) / 8)) (.int .i64 (((n:Int) * 2+7) / 8))).run Tryz.prog W = .ok (.slice (some ⟨W.heap.size,0,none⟩) m m) (W.alloc (.cells (madeCells #[.int .u8 0] m) 5)):=by
  intro W;have:=run_make_row' (P:=Tryz.prog) 84 5 (.int .u8 0) 1 Tryz.underlying84 (by kernel_rfl) rfl .i64 .i64 m (by omega) (by omega) W
  have e:((m:Nat):Int)=((n:Int) * 2+7) / 8:=by omega
  rw [e] at this;exact this
 have Hm3:=Bx.mk hm3;clear hm3;have hF:Bx (∀ k x,xs[k]? = some x→p.idxOf (xs.getD k 0)=p.idxOf x∧x∈p):=Bx.mk (fun k x hx=>⟨by simp [hx],hin x (List.mem_of_getElem? hx)⟩)
 clear hin;generalize hFd:(fun i=>p.idxOf (xs.getD i 0))=F;have hF':Bx (∀ k x,xs[k]? = some x→F k=p.idxOf x∧x∈p):=Bx.mk (by rw [←hFd];exact hF.out)
 have hFlt:Bx (∀ k,k<n→F k<2 ^ 2):=Bx.mk (fun k hk=>by
  obtain ⟨x,hx⟩:=zBT Hn hk;obtain ⟨h1,h2⟩:=hF'.out k x hx;rw [h1];exact Nat.lt_of_lt_of_le (idx_lt h2) hpl)
 have hpl2:p.length≤1000000:=Nat.le_trans hpl (by decide)
 clear hFd hF hpl;go_enter Tryz.func167,Tryz.ntmps167;go_wp2;clear hmk
 go_loopw [21] (fun i wr => ∃ k:Nat,k≤n∧i = .int .i64 k∧wr.rowIs w.heap.size 5 m (fun j=>.int .u8 (Pal.byt 2 F k j:Nat))∧Below w.heap.size w wr) (fun i _=>n - (intOf i).toNat)
 case atStart=>exact ⟨0,Nat.zero_le _,rfl,World.rowIs_made _ _ _ _,(Below.refl _ _).alloc (Nat.le_refl _) _⟩
 case round =>
  obtain ⟨k,hk,rfl,hrow,hbel⟩:=hrel;by_cases hlt:k<n
  · obtain ⟨x,hx⟩:=zBT Hn hlt;obtain ⟨b,off,rfl,hcx⟩:=h.below hbel k x hx;obtain ⟨hFk,hxp⟩:=hF'.out k x hx;have Hx:=Bx.mk hx;have HFk:=Bx.mk hFk;have hfind:=Bx.mk (Pal.find_pos hxp);clear h hx hFk hxp;have hc1:=cell_later hbel hc;have hp1:=hp.below hbel;obtain ⟨j,hj1,hj2,hj⟩ : ∃ j,8 * j≤k * 2∧k * 2<8 * j+8∧j=k * 2 / 8:=⟨k * 2 / 8,by omega,by omega,rfl⟩
    obtain ⟨s,hs1,hs⟩ : ∃ s,s+2≤8∧s=k * 2 % 8:=⟨k * 2 % 8,by omega,rfl⟩
    have e1:IntKind.i64.wrap ((k:Int) * 2)=(k:Int) * 2:=IntWalk.i64_in _ (by omega)
    have e2:IntKind.i64.wrap ((k:Int) * 2 / 8)=(j:Int):=by rw [IntWalk.i64_in _ (by omega)];omega
    have e3:IntKind.i64.wrap (((k:Int) * 2).tdiv 8)=(j:Int):=by rw [IntWalk.i64_quo _ _ (by omega)];omega
    have e4:((k:Int) * 2).tmod 8=(s:Int):=by rw [IntWalk.rem_in _ _ (by omega)];omega
    have hjm:j<m:=by omega
    have hjm':(j:Int)<(m:Int):=by omega
    have hj0:(0:Int)≤(j:Int):=by omega
    have hBs:=Bx.mk (zBu 2 (by unfold Pal.Wd;omega) F k j s (fun i hi=>hFlt.out i (by omega)) hj hs)
    have hFk2:=Bx.mk (hFlt.out k hlt);have Hj:=Bx.mk hj;have Hs:=Bx.mk hs;clear hj hs;have hb0:=hrow.cell hjm;have hf0:=hrow.frozen j
    have hcall:Calls Tryz.prog 169 #[x,.pointer (some pp)] wr.drew fun e w'=>e = .returned (.int .i64 (F k:Nat))∧w'=wr.drew :=
     (zJG pp pa pc p x wr.drew hpl2 hc1 hp1).mono (by rintro e w' ⟨rfl,rfl⟩;exact ⟨zt (by rw [hfind.out,←HFk.out]),rfl⟩)
    have Hcall:=Bx.mk hcall;clear hcall;generalize hBd:Pal.byt 2 F k j=B at hb0;have HBd:=Bx.mk hBd;clear hBd;go_wp2_with fail;refine wp_region_still_tail 18 (by kernel_rfl) (by kernel_rfl) ?_
    simp only [List.take_succ_cons,List.take_zero,List.drop_succ_cons,List.drop_zero]
    repeat still_step
    still_call Hcall.out
    repeat still_step
    refine wpStill_nil ?_;change wpList _ _ _ _ _ wr.drew;have hval:=Bx.mk (zI1 2 s B (F k) (HBd.out ▸ hBs.out) hFk2.out (by omega))
    rw [hval.out];go_wp2
    go_roundw
    case rel =>
     refine ⟨k+1,by omega,by go_num,?_,(hbel.drew).setCell (by simp) _⟩
     refine (hrow.drew.set j _).congr (fun j' hj'=>?_)
     show (if j'=j then _ else Value.int .u8 (Pal.byt 2 F k j':Nat))=Value.int .u8 ((Pal.byt 2 F k j'+if k * 2 / 8=j' then F k * 2 ^ (k * 2 % 8) else 0:Nat):Int)
     have hj:=Hj.out;by_cases e:j'=j
     · subst e;rw [if_pos rfl,if_pos hj.symm,HBd.out,Hs.out];simp
     · rw [if_neg e,if_neg (by omega)];rfl
    case measure=>simp [intOf];omega
  · have hkn:k=n:=by omega
    have hmm:=Hm3.out;rw [hkn] at hrow;clear hkn;go_wp2;go_ret;exact ⟨_,rfl,Own.ofRow (F:=fun j=>(Pal.byt 2 F n j:Nat)) hrow (Nat.le_refl _) (by simp only [maxLen];omega) (by rw [hmm];rfl),hbel⟩
theorem zJ4 (a:Option Addr) (cap:Nat) (xs:List Int) (pp:Addr) (pa:Option Addr) (pc:Nat) (p:List Int) (w:World) (hl:xs.length≤1000) (h:Sl w .i64 a xs)
 (hpl:p.length≤2 ^ 4) (hin : ∀ x,x∈xs→x∈p) (hc:w.cell? pp=some (.slice pa p.length pc)) (hp:Sl w .i64 pa p) :
 Calls Tryz.prog 167 #[.slice a xs.length cap,(4:Int),.func (.func 169) #[] #[.pointer (some pp)]] w fun e w' =>
  ∃ v,e = .returned v∧Own w' w.heap.size 5 .u8 v (Pal.packs 4 (fun i=>p.idxOf (xs.getD i 0)) xs.length)∧Below w.heap.size w w':=by
 generalize hn:xs.length=n at hl;have Hn:=Bx.mk hn;clear hn;obtain ⟨m,hm1,hm2,hm3⟩ : ∃ m,8 * m ≥ n * 4∧8 * m<n * 4+8∧m=(n * 4+7) / 8:=⟨(n * 4+7) / 8,by omega,by omega,rfl⟩
 have hmk : ∀ W,(Instr.makeSlice 84 (.int .i64 (((n:Int) * 4+7) / 8)) (.int .i64 (((n:Int) * 4+7) / 8))).run Tryz.prog W = .ok (.slice (some ⟨W.heap.size,0,none⟩) m m) (W.alloc (.cells (madeCells #[.int .u8 0] m) 5)):=by
  intro W;have:=run_make_row' (P:=Tryz.prog) 84 5 (.int .u8 0) 1 Tryz.underlying84 (by kernel_rfl) rfl .i64 .i64 m (by omega) (by omega) W
  have e:((m:Nat):Int)=((n:Int) * 4+7) / 8:=by omega
  rw [e] at this;exact this
 have Hm3:=Bx.mk hm3;clear hm3;have hF:Bx (∀ k x,xs[k]? = some x→p.idxOf (xs.getD k 0)=p.idxOf x∧x∈p):=Bx.mk (fun k x hx=>⟨by simp [hx],hin x (List.mem_of_getElem? hx)⟩)
 clear hin;generalize hFd:(fun i=>p.idxOf (xs.getD i 0))=F;have hF':Bx (∀ k x,xs[k]? = some x→F k=p.idxOf x∧x∈p):=Bx.mk (by rw [←hFd];exact hF.out)
 have hFlt:Bx (∀ k,k<n→F k<2 ^ 4):=Bx.mk (fun k hk=>by
  obtain ⟨x,hx⟩:=zBT Hn hk;obtain ⟨h1,h2⟩:=hF'.out k x hx;rw [h1];exact Nat.lt_of_lt_of_le (idx_lt h2) hpl)
 have hpl2:p.length≤1000000:=Nat.le_trans hpl (by decide)
 clear hFd hF hpl;go_enter Tryz.func167,Tryz.ntmps167;go_wp2;clear hmk
 go_loopw [21] (fun i wr => ∃ k:Nat,k≤n∧i = .int .i64 k∧wr.rowIs w.heap.size 5 m (fun j=>.int .u8 (Pal.byt 4 F k j:Nat))∧Below w.heap.size w wr) (fun i _=>n - (intOf i).toNat)
 case atStart=>exact ⟨0,Nat.zero_le _,rfl,World.rowIs_made _ _ _ _,(Below.refl _ _).alloc (Nat.le_refl _) _⟩
 case round =>
  obtain ⟨k,hk,rfl,hrow,hbel⟩:=hrel;by_cases hlt:k<n
  · obtain ⟨x,hx⟩:=zBT Hn hlt;obtain ⟨b,off,rfl,hcx⟩:=h.below hbel k x hx;obtain ⟨hFk,hxp⟩:=hF'.out k x hx;have Hx:=Bx.mk hx;have HFk:=Bx.mk hFk;have hfind:=Bx.mk (Pal.find_pos hxp);clear h hx hFk hxp;have hc1:=cell_later hbel hc;have hp1:=hp.below hbel;obtain ⟨j,hj1,hj2,hj⟩ : ∃ j,8 * j≤k * 4∧k * 4<8 * j+8∧j=k * 4 / 8:=⟨k * 4 / 8,by omega,by omega,rfl⟩
    obtain ⟨s,hs1,hs⟩ : ∃ s,s+4≤8∧s=k * 4 % 8:=⟨k * 4 % 8,by omega,rfl⟩
    have e1:IntKind.i64.wrap ((k:Int) * 4)=(k:Int) * 4:=IntWalk.i64_in _ (by omega)
    have e2:IntKind.i64.wrap ((k:Int) * 4 / 8)=(j:Int):=by rw [IntWalk.i64_in _ (by omega)];omega
    have e3:IntKind.i64.wrap (((k:Int) * 4).tdiv 8)=(j:Int):=by rw [IntWalk.i64_quo _ _ (by omega)];omega
    have e4:((k:Int) * 4).tmod 8=(s:Int):=by rw [IntWalk.rem_in _ _ (by omega)];omega
    have hjm:j<m:=by omega
    have hjm':(j:Int)<(m:Int):=by omega
    have hj0:(0:Int)≤(j:Int):=by omega
    have hBs:=Bx.mk (zBu 4 (by unfold Pal.Wd;omega) F k j s (fun i hi=>hFlt.out i (by omega)) hj hs)
    have hFk2:=Bx.mk (hFlt.out k hlt);have Hj:=Bx.mk hj;have Hs:=Bx.mk hs;clear hj hs;have hb0:=hrow.cell hjm;have hf0:=hrow.frozen j
    have hcall:Calls Tryz.prog 169 #[x,.pointer (some pp)] wr.drew fun e w'=>e = .returned (.int .i64 (F k:Nat))∧w'=wr.drew :=
     (zJG pp pa pc p x wr.drew hpl2 hc1 hp1).mono (by rintro e w' ⟨rfl,rfl⟩;exact ⟨zt (by rw [hfind.out,←HFk.out]),rfl⟩)
    have Hcall:=Bx.mk hcall;clear hcall;generalize hBd:Pal.byt 4 F k j=B at hb0;have HBd:=Bx.mk hBd;clear hBd;go_wp2_with fail;refine wp_region_still_tail 18 (by kernel_rfl) (by kernel_rfl) ?_
    simp only [List.take_succ_cons,List.take_zero,List.drop_succ_cons,List.drop_zero]
    repeat still_step
    still_call Hcall.out
    repeat still_step
    refine wpStill_nil ?_;change wpList _ _ _ _ _ wr.drew;have hval:=Bx.mk (zI1 4 s B (F k) (HBd.out ▸ hBs.out) hFk2.out (by omega))
    rw [hval.out];go_wp2
    go_roundw
    case rel =>
     refine ⟨k+1,by omega,by go_num,?_,(hbel.drew).setCell (by simp) _⟩
     refine (hrow.drew.set j _).congr (fun j' hj'=>?_)
     show (if j'=j then _ else Value.int .u8 (Pal.byt 4 F k j':Nat))=Value.int .u8 ((Pal.byt 4 F k j'+if k * 4 / 8=j' then F k * 2 ^ (k * 4 % 8) else 0:Nat):Int)
     have hj:=Hj.out;by_cases e:j'=j
     · subst e;rw [if_pos rfl,if_pos hj.symm,HBd.out,Hs.out];simp
     · rw [if_neg e,if_neg (by omega)];rfl
    case measure=>simp [intOf];omega
  · have hkn:k=n:=by omega
    have hmm:=Hm3.out;rw [hkn] at hrow;clear hkn;go_wp2;go_ret;exact ⟨_,rfl,Own.ofRow (F:=fun j=>(Pal.byt 4 F n j:Nat)) hrow (Nat.le_refl _) (by simp only [maxLen];omega) (by rw [hmm];rfl),hbel⟩
theorem zJ5 (a:Option Addr) (cap:Nat) (xs:List Int) (pp:Addr) (pa:Option Addr) (pc:Nat) (p:List Int) (w:World) (hl:xs.length≤1000) (h:Sl w .i64 a xs)
 (hpl:p.length≤2 ^ 8) (hin : ∀ x,x∈xs→x∈p) (hc:w.cell? pp=some (.slice pa p.length pc)) (hp:Sl w .i64 pa p) :
 Calls Tryz.prog 167 #[.slice a xs.length cap,(8:Int),.func (.func 169) #[] #[.pointer (some pp)]] w fun e w' =>
  ∃ v,e = .returned v∧Own w' w.heap.size 5 .u8 v (Pal.packs 8 (fun i=>p.idxOf (xs.getD i 0)) xs.length)∧Below w.heap.size w w':=by
 generalize hn:xs.length=n at hl;have Hn:=Bx.mk hn;clear hn;obtain ⟨m,hm1,hm2,hm3⟩ : ∃ m,8 * m ≥ n * 8∧8 * m<n * 8+8∧m=(n * 8+7) / 8:=⟨(n * 8+7) / 8,by omega,by omega,rfl⟩
 have hmk : ∀ W,(Instr.makeSlice 84 (.int .i64 (((n:Int) * 8+7) / 8)) (.int .i64 (((n:Int) * 8+7) / 8))).run Tryz.prog W = .ok (.slice (some ⟨W.heap.size,0,none⟩) m m) (W.alloc (.cells (madeCells #[.int .u8 0] m) 5)):=by
  intro W;have:=run_make_row' (P:=Tryz.prog) 84 5 (.int .u8 0) 1 Tryz.underlying84 (by kernel_rfl) rfl .i64 .i64 m (by omega) (by omega) W
  have e:((m:Nat):Int)=((n:Int) * 8+7) / 8:=by omega
  rw [e] at this;exact this
 have Hm3:=Bx.mk hm3;clear hm3;have hF:Bx (∀ k x,xs[k]? = some x→p.idxOf (xs.getD k 0)=p.idxOf x∧x∈p):=Bx.mk (fun k x hx=>⟨by simp [hx],hin x (List.mem_of_getElem? hx)⟩)
 clear hin;generalize hFd:(fun i=>p.idxOf (xs.getD i 0))=F;have hF':Bx (∀ k x,xs[k]? = some x→F k=p.idxOf x∧x∈p):=Bx.mk (by rw [←hFd];exact hF.out)
 have hFlt:Bx (∀ k,k<n→F k<2 ^ 8):=Bx.mk (fun k hk=>by
  obtain ⟨x,hx⟩:=zBT Hn hk;obtain ⟨h1,h2⟩:=hF'.out k x hx;rw [h1];exact Nat.lt_of_lt_of_le (idx_lt h2) hpl)
 have hpl2:p.length≤1000000:=Nat.le_trans hpl (by decide)
 clear hFd hF hpl;go_enter Tryz.func167,Tryz.ntmps167;go_wp2;clear hmk
 go_loopw [21] (fun i wr => ∃ k:Nat,k≤n∧i = .int .i64 k∧wr.rowIs w.heap.size 5 m (fun j=>.int .u8 (Pal.byt 8 F k j:Nat))∧Below w.heap.size w wr) (fun i _=>n - (intOf i).toNat)
 case atStart=>exact ⟨0,Nat.zero_le _,rfl,World.rowIs_made _ _ _ _,(Below.refl _ _).alloc (Nat.le_refl _) _⟩
 case round =>
  obtain ⟨k,hk,rfl,hrow,hbel⟩:=hrel;by_cases hlt:k<n
  · obtain ⟨x,hx⟩:=zBT Hn hlt;obtain ⟨b,off,rfl,hcx⟩:=h.below hbel k x hx;obtain ⟨hFk,hxp⟩:=hF'.out k x hx;have Hx:=Bx.mk hx;have HFk:=Bx.mk hFk;have hfind:=Bx.mk (Pal.find_pos hxp);clear h hx hFk hxp;have hc1:=cell_later hbel hc;have hp1:=hp.below hbel;obtain ⟨j,hj1,hj2,hj⟩ : ∃ j,8 * j≤k * 8∧k * 8<8 * j+8∧j=k * 8 / 8:=⟨k * 8 / 8,by omega,by omega,rfl⟩
    obtain ⟨s,hs1,hs⟩ : ∃ s,s+8≤8∧s=k * 8 % 8:=⟨k * 8 % 8,by omega,rfl⟩
    have e1:IntKind.i64.wrap ((k:Int) * 8)=(k:Int) * 8:=IntWalk.i64_in _ (by omega)
    have e2:IntKind.i64.wrap ((k:Int) * 8 / 8)=(j:Int):=by rw [IntWalk.i64_in _ (by omega)];omega
    have e3:IntKind.i64.wrap (((k:Int) * 8).tdiv 8)=(j:Int):=by rw [IntWalk.i64_quo _ _ (by omega)];omega
    have e5:IntKind.i64.wrap (k:Int)=(j:Int):=by rw [IntWalk.i64_in _ (by omega)];omega
    have e4:((k:Int) * 8).tmod 8=(s:Int):=by rw [IntWalk.rem_in _ _ (by omega)];omega
    have hjm:j<m:=by omega
    have hjm':(j:Int)<(m:Int):=by omega
    have hj0:(0:Int)≤(j:Int):=by omega
    have hBs:=Bx.mk (zBu 8 (by unfold Pal.Wd;omega) F k j s (fun i hi=>hFlt.out i (by omega)) hj hs)
    have hFk2:=Bx.mk (hFlt.out k hlt);have Hj:=Bx.mk hj;have Hs:=Bx.mk hs;clear hj hs;have hb0:=hrow.cell hjm;have hf0:=hrow.frozen j
    have hcall:Calls Tryz.prog 169 #[x,.pointer (some pp)] wr.drew fun e w'=>e = .returned (.int .i64 (F k:Nat))∧w'=wr.drew :=
     (zJG pp pa pc p x wr.drew hpl2 hc1 hp1).mono (by rintro e w' ⟨rfl,rfl⟩;exact ⟨zt (by rw [hfind.out,←HFk.out]),rfl⟩)
    have Hcall:=Bx.mk hcall;clear hcall;generalize hBd:Pal.byt 8 F k j=B at hb0;have HBd:=Bx.mk hBd;clear hBd;go_wp2_with fail;refine wp_region_still_tail 18 (by kernel_rfl) (by kernel_rfl) ?_
    simp only [List.take_succ_cons,List.take_zero,List.drop_succ_cons,List.drop_zero]
    repeat still_step
    still_call Hcall.out
    repeat still_step
    refine wpStill_nil ?_;change wpList _ _ _ _ _ wr.drew;have hval:=Bx.mk (zI1 8 s B (F k) (HBd.out ▸ hBs.out) hFk2.out (by omega))
    rw [hval.out];go_wp2
    go_roundw
    case rel =>
     refine ⟨k+1,by omega,by go_num,?_,(hbel.drew).setCell (by simp) _⟩
     refine (hrow.drew.set j _).congr (fun j' hj'=>?_)
     show (if j'=j then _ else Value.int .u8 (Pal.byt 8 F k j':Nat))=Value.int .u8 ((Pal.byt 8 F k j'+if k * 8 / 8=j' then F k * 2 ^ (k * 8 % 8) else 0:Nat):Int)
     have hj:=Hj.out;by_cases e:j'=j
     · subst e;rw [if_pos rfl,if_pos hj.symm,HBd.out,Hs.out];simp
     · rw [if_neg e,if_neg (by omega)];rfl
    case measure=>simp [intOf];omega
  · have hkn:k=n:=by omega
    have hmm:=Hm3.out;rw [hkn] at hrow;clear hkn;go_wp2;go_ret;exact ⟨_,rfl,Own.ofRow (F:=fun j=>(Pal.byt 8 F n j:Nat)) hrow (Nat.le_refl _) (by simp only [maxLen];omega) (by rw [hmm];rfl),hbel⟩
end Go.Proofs.YtgnfgblkpnfcnaaGreatDoor.PalE
end
