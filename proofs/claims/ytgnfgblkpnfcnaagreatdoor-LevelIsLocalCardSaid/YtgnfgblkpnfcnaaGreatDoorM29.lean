/- Lpp, Lpk, Lpr, RlT, RlX: joined by program, for one claim. -/
import Derived.Test.YtgnfgblkpnfcnaaGreatDoorM28
import Derived.Deep.LoopGhost
import Derived.Deep.DeepCutAuto
import Derived.Test.YtgnfgblkpnfcnaaGreatDoorM4
import Derived.Test.YtgnfgblkpnfcnaaGreatDoorM10
import Derived.Deep.Quiet
set_option linter.unusedVariables false
set_option linter.unusedSimpArgs false
namespace Go.Proofs.YtgnfgblkpnfcnaaGreatDoor
section
open Go.RowKit
open Oct
def l8 (p:Nat→Int):List Int:=(List.range 8).map p
theorem l8_len (p:Nat→Int):(l8 p).length=8:=by simp [l8]
theorem l8_get (p:Nat→Int) {k:Nat} (hk:k<8):(l8 p)[k]? = some (p k):=by simp [l8,hk]
theorem l8_take (p:Nat→Int) {k:Nat} (hk:k<8):(l8 p).take (k+1)=(l8 p).take k++[p k]:=by
 have h:=List.getElem?_eq_some_iff.1 (l8_get p hk)
 rw [List.take_succ_eq_append_getElem h.1,h.2]
theorem l8_all (p:Nat→Int):(l8 p).take 8=l8 p:=List.take_of_length_le (by rw [l8_len];exact Nat.le_refl _)
theorem l8_mem {p:Nat→Int} {k:Nat} (hk:k<8):p k∈l8 p:=List.mem_of_getElem? (l8_get p hk)
def Cand (s:Int→Bool) (l:List Int) (d:Int):Prop:=s d=decide (4≤l.countP s)
structure PickI (s:Int→Bool) (p:Nat→Int) (k:Nat) (best times:Int):Prop where
 le : ∀ d∈(l8 p).take k,Cand s (l8 p) d→((l8 p).count d:Int)<times∨(((l8 p).count d:Int)=times∧best≤d)
 is:(times=0∧best=0 ∧ ∀ d∈(l8 p).take k,¬Cand s (l8 p) d)∨(best∈l8 p∧Cand s (l8 p) best∧times=((l8 p).count best:Int))
theorem PickI.start (s:Int→Bool) (p:Nat→Int):PickI s p 0 0 0:=⟨fun d h=>by simp at h,.inl ⟨rfl,rfl,fun d h=>by simp at h⟩⟩
theorem PickI.skip {s:Int→Bool} {p:Nat→Int} {k:Nat} {best times:Int} (h:PickI s p k best times) (hk:k<8) (hc : ¬Cand s (l8 p) (p k)):PickI s p (k+1) best times:=by
 have key : ∀ d∈(l8 p).take (k+1),Cand s (l8 p) d→d∈(l8 p).take k:=fun d hd hd'=>by
  rw [l8_take p hk,List.mem_append,List.mem_singleton] at hd
  rcases hd with hd | rfl
  · exact hd
  · exact absurd hd' hc
 refine ⟨fun d hd hd'=>h.le d (key d hd hd') hd',?_⟩
 rcases h.is with ⟨h1,h2,h3⟩ | h
 · exact .inl ⟨h1,h2,fun d hd hd'=>h3 d (key d hd hd') hd'⟩
 · exact .inr h
theorem PickI.keep {s:Int→Bool} {p:Nat→Int} {k:Nat} {best times:Int} (h:PickI s p k best times) (hk:k<8) (hle : ¬(((l8 p).count (p k):Int) > times∨(((l8 p).count (p k):Int)=times∧p k<best))) (_hc:Cand s (l8 p) (p k)):PickI s p (k+1) best times:=by
 have hpos:0<(l8 p).count (p k):=List.count_pos_iff.2 (l8_mem hk)
 refine ⟨fun d hd hd'=>?_,?_⟩
 · rw [l8_take p hk,List.mem_append,List.mem_singleton] at hd
   rcases hd with hd | rfl
   · exact h.le d hd hd'
   · omega
 · rcases h.is with ⟨h1,h2,h3⟩ | h
   · omega
   · exact .inr h
theorem PickI.take {s:Int→Bool} {p:Nat→Int} {k:Nat} {best times:Int} (h:PickI s p k best times) (hk:k<8) (hgt:((l8 p).count (p k):Int) > times∨(((l8 p).count (p k):Int)=times∧p k<best)) (hc:Cand s (l8 p) (p k)):PickI s p (k+1) (p k) ((l8 p).count (p k):Int):=by
 refine ⟨fun d hd hd'=>?_,.inr ⟨l8_mem hk,hc,rfl⟩⟩
 rw [l8_take p hk,List.mem_append,List.mem_singleton] at hd
 rcases hd with hd | rfl
 · have:=h.le d hd hd';omega
 · exact .inr ⟨rfl,Int.le_refl _⟩
theorem PickI.done {s:Int→Bool} {p:Nat→Int} {best times:Int} (h:PickI s p 8 best times):best=pickV s (l8 p):=by
 obtain ⟨d,hd,hc⟩:=pick_some s (l8_len p)
 rcases h.is with ⟨_,_,h3⟩ | ⟨h1,h2,h3⟩
 · exact absurd hc (h3 d (by rw [l8_all];exact hd))
 · refine pickV_eq (l8_len p) ⟨h1,h2,fun e he hce=>?_⟩
   have:=h.le e (by rw [l8_all];exact he) hce
   omega
structure PickR (s:Int→Bool) (p:Nat→Int) (c:Nat) (best times:Int):Prop where
 le : ∀ d:Nat,d<c→Cand s (l8 p) d→((l8 p).count (d:Int):Int)<times∨(((l8 p).count (d:Int):Int)=times∧(times=0∨best≤d))
 is:times=0∨(best∈l8 p∧Cand s (l8 p) best∧times=((l8 p).count best:Int))
 lo:0≤times
 up:times=0∨best<c
theorem PickR.start (s:Int→Bool) (p:Nat→Int):PickR s p 0 (-1) 0:=⟨fun d h=>by omega,.inl rfl,Int.le_refl _,.inl rfl⟩
theorem PickR.keep {s:Int→Bool} {p:Nat→Int} {c:Nat} {best times:Int} (h:PickR s p c best times) (hle : ¬(((l8 p).count (c:Int):Int) > times∧Cand s (l8 p) c)):PickR s p (c+1) best times:=by
 refine ⟨fun d hd hc=>?_,h.is,h.lo,by have:=h.up;omega⟩
 by_cases e:d=c
 · subst e
   have h1 : ¬((l8 p).count (d:Int):Int) > times:=fun h1=>hle ⟨h1,hc⟩
   have:=h.up
   omega
 · exact h.le d (by omega) hc
theorem PickR.take {s:Int→Bool} {p:Nat→Int} {c:Nat} {best times:Int} (h:PickR s p c best times) (hgt:((l8 p).count (c:Int):Int) > times) (hc:Cand s (l8 p) c):PickR s p (c+1) c ((l8 p).count (c:Int):Int):=by
 have hlo:=h.lo
 have hm:(c:Int)∈l8 p:=List.count_pos_iff.1 (by omega)
 refine ⟨fun d hd hcd=>?_,.inr ⟨hm,hc,rfl⟩,by omega,.inr (by omega)⟩
 by_cases e:d=c
 · subst e;exact .inr ⟨rfl,.inr (Int.le_refl _)⟩
 · have:=h.le d (by omega) hcd;omega
theorem PickR.done {s:Int→Bool} {p:Nat→Int} {best times:Int} (h:PickR s p 256 best times) (hp : ∀ k,k<8→0≤p k∧p k≤255):best=pickV s (l8 p):=by
 have hr : ∀ d∈l8 p,∃ n:Nat,d=(n:Int)∧n<256:=fun d hd=>by
  obtain ⟨k,hk,rfl⟩:=List.mem_map.1 hd
  have:=hp k (List.mem_range.1 hk)
  exact ⟨(p k).toNat,by omega,by omega⟩
 obtain ⟨d,hd,hc⟩:=pick_some s (l8_len p)
 have hpos:0<(l8 p).count d:=List.count_pos_iff.2 hd
 rcases h.is with h0 | ⟨h1,h2,h3⟩
 · obtain ⟨n,rfl,hn⟩:=hr d hd
   have:=h.le n hn hc
   omega
 · have hb:0<(l8 p).count best:=List.count_pos_iff.2 h1
   refine pickV_eq (l8_len p) ⟨h1,h2,fun e he hce=>?_⟩
   obtain ⟨n,rfl,hn⟩:=hr e he
   have:=h.le n hn hce
   omega
end
section
open Go.RowKit Go.Sort Go.Maps
open Oct
theorem lv_idx8 (p:Nat→Int) (k:Nat) (hk:k<8) (W:World):(Instr.index 54 (.agg #[.int .i64 (p 0),.int .i64 (p 1),.int .i64 (p 2),.int .i64 (p 3),.int .i64 (p 4),.int .i64 (p 5),.int .i64 (p 6),.int .i64 (p 7)]) (.int .i64 (k:Int))).run Tryz.prog W = .ok (.int .i64 (p k)) W:=by
 have hu:=Tryz.underlying54
 have h1 : Tryz.prog.cellsOf 3=1:=by kernel_rfl
 have hc:(#[.int .i64 (p 0),.int .i64 (p 1),.int .i64 (p 2),.int .i64 (p 3),.int .i64 (p 4),.int .i64 (p 5),.int .i64 (p 6),.int .i64 (p 7)]:Array Value)[k]? = some (.int .i64 (p k)):=by
  have h0:k=0∨k=1∨k=2∨k=3∨k=4∨k=5∨k=6∨k=7:=by omega
  rcases h0 with rfl | rfl | rfl | rfl | rfl | rfl | rfl | rfl <;> rfl
 have h0:(0:Int)≤(k:Int)∧(k:Int)<8:=by omega
 generalize (#[.int .i64 (p 0),.int .i64 (p 1),.int .i64 (p 2),.int .i64 (p 3),.int .i64 (p 4),.int .i64 (p 5),.int .i64 (p 6),.int .i64 (p 7)]:Array Value)=cs at *
 simp [Instr.index,run_underlying hu,asIntOf,h0,go_sem]
 rw [if_pos hk,hc]
 rfl
theorem l8_countP (s:Int→Bool) (p:Nat→Int) {k:Nat} (hk:k<8):((l8 p).take (k+1)).countP s=((l8 p).take k).countP s+if s (p k)=true then 1 else 0:=by
 rw [l8_take p hk,List.countP_append,List.countP_cons,List.countP_nil,Nat.zero_add]
theorem l8_count (p:Nat→Int) (c:Int) {k:Nat} (hk:k<8):((l8 p).take (k+1)).count c=((l8 p).take k).count c+if (p k == c)=true then 1 else 0:=by
 rw [l8_take p hk,List.count_append,List.count_cons,List.count_nil,Nat.zero_add]
set_option maxRecDepth 100000 in
set_option maxHeartbeats 4000000 in
theorem lv_pick (ta:Option Addr) (tc:Nat) (L:List Mat) (p:Nat→Int) (hl:L.length≤1000000000) (w:World) (hT:SlM w ta L) :
 Calls Tryz.prog 23 #[.slice ta L.length tc,.agg #[.int .i64 (p 0),.int .i64 (p 1),.int .i64 (p 2),.int .i64 (p 3),.int .i64 (p 4),.int .i64 (p 5),.int .i64 (p 6),.int .i64 (p 7)]] w fun e w'=>e = .returned (.int .i64 (pickV (solT L) (l8 p)))∧Below w.heap.size w w':=by
 have HS:=Bx.mk fun W (hb:Below w.heap.size w W) c=>mat_solid ta tc L c hl W (hT.below hb)
 generalize solT L=s at *
 generalize L.length=nl at *
 clear hT hl
 go_enter Tryz.func23,Tryz.ntmps23
 go_upto_region 1 with fail
 generalize hW:World.alloc w _=W
 have HB:=Bx.mk (show Below w.heap.size w W by rw [←hW];exact (Below.refl _ _).alloc (Nat.le_refl _) _)
 have KB:=Bx.mk (show Bk W w.heap.size #[.int .i64 (p 0),.int .i64 (p 1),.int .i64 (p 2),.int .i64 (p 3),.int .i64 (p 4),.int .i64 (p 5),.int .i64 (p 6),.int .i64 (p 7)] 54 by rw [←hW];exact blk_new _ _ _ rfl)
 clear hW
 obtain ⟨c0,c1,c2,c3,c4,c5,c6,c7⟩:=KB.out.c8
 go_wp2_with fail
 clear c0 c1 c2 c3 c4 c5 c6 c7
 go_loopw [5,16] (fun v5 v16 wr => ∃ k:Nat,k≤8∧v16 = .int .i64 k∧v5 = .int .i64 (((l8 p).take k).countP s:Nat)∧Bx (Below w.heap.size w wr∧Bk wr w.heap.size #[.int .i64 (p 0),.int .i64 (p 1),.int .i64 (p 2),.int .i64 (p 3),.int .i64 (p 4),.int .i64 (p 5),.int .i64 (p 6),.int .i64 (p 7)] 54)) (fun _ i _=>8 - (intOf i).toNat)
 case atStart=>exact ⟨0,Nat.zero_le _,rfl,by simp,⟨HB.out,KB.out⟩⟩
 case round =>
  obtain ⟨k,hk,rfl,rfl,HI⟩:=hrel
  clear HB KB
  by_cases hlt:k<8
  · have t0:decide ((k:Int)<8)=true:=by simp;omega
    have hix:=lv_idx8 p k hlt
    have hcp:=l8_countP s p hlt
    have hle:=List.countP_le_length (p:=s) (l:=(l8 p).take k)
    rw [List.length_take,l8_len] at hle
    obtain ⟨c1,hc1⟩ : ∃ c1,((l8 p).take (k+1)).countP s=c1:=⟨_,rfl⟩
    have HCP:=Bx.mk hc1
    rw [hc1] at hcp
    clear hc1
    generalize ((l8 p).take k).countP s=c0 at *
    go_wp2_with fail
    refine (HS.out _ HI.out.1 (p k)).mono ?_
    rintro _ w2 ⟨rfl,hb⟩
    have HI2:=Bx.mk (show Below w.heap.size w w2∧Bk w2 w.heap.size #[.int .i64 (p 0),.int .i64 (p 1),.int .i64 (p 2),.int .i64 (p 3),.int .i64 (p 4),.int .i64 (p 5),.int .i64 (p 6),.int .i64 (p 7)] 54 from ⟨HI.out.1.trans (hb.mono HI.out.1.size),HI.out.2.later hb⟩)
    clear hb HI
    cases hs:s (p k) with
    | true =>
      rw [if_pos hs] at hcp
      have hw:IntKind.i64.wrap ((c0:Int)+1)=(c1:Int):=by rw [show (c0:Int)+1=(c1:Int) by omega];exact IntWalk.i64_in _ (by omega)
      have HQ:=Bx.mk hcp
      clear hle hs hcp
      go_wp2_with fail
      go_roundw
      case rel=>exact ⟨k+1,by omega,by go_num,by rw [HCP.out];try exact congrArg _ (by have:=HQ.out;omega),HI2⟩
      case measure=>simp [intOf];omega
    | false =>
      rw [if_neg (by rw [hs];decide)] at hcp
      have HQ:=Bx.mk hcp
      clear hle hs hcp
      go_wp2_with fail
      go_roundw
      case rel=>exact ⟨k+1,by omega,by go_num,by rw [HCP.out];try exact congrArg _ (by have:=HQ.out;omega),HI2⟩
      case measure=>simp [intOf];omega
  · have hk8:((k:Nat):Int)=8:=by omega
    rw [hk8]
    obtain rfl:k=8:=by omega
    clear hk8
    have t0:decide ((8:Int)<8)=false:=by decide
    rw [l8_all]
    obtain ⟨g4,hg4⟩ : ∃ g,g=decide (4≤(l8 p).countP s):=⟨_,rfl⟩
    obtain ⟨tot,htot⟩ : ∃ t:Nat,t=(l8 p).countP s:=⟨_,rfl⟩
    rw [←htot]
    have hge:decide ((tot:Int) ≥ 4)=g4:=by rw [hg4,←htot,Bool.eq_iff_iff];simp;omega
    have HG:=Bx.mk hg4
    clear hg4 htot
    obtain ⟨c0,c1,c2,c3,c4,c5,c6,c7⟩:=HI.out.2.c8
    go_wp2_with fail
    clear c0 c1 c2 c3 c4 c5 c6 c7
    go_loopw [8,9,26] (fun v8 v9 v26 wr => ∃ k:Nat,∃ best times:Int,k≤8∧v26 = .int .i64 k∧v8 = .int .i64 best∧v9 = .int .i64 times∧Bx (PickI s p k best times∧Below w.heap.size w wr∧Bk wr w.heap.size #[.int .i64 (p 0),.int .i64 (p 1),.int .i64 (p 2),.int .i64 (p 3),.int .i64 (p 4),.int .i64 (p 5),.int .i64 (p 6),.int .i64 (p 7)] 54)) (fun _ _ i _=>8 - (intOf i).toNat)
    case atStart=>exact ⟨0,0,0,Nat.zero_le _,rfl,rfl,rfl,⟨PickI.start s p,HI.out.1,HI.out.2⟩⟩
    case round =>
     obtain ⟨k,best,times,hk,rfl,rfl,rfl,HJ⟩:=hrel
     clear HI t0
     by_cases hlt:k<8
     · have t0:decide ((k:Int)<8)=true:=by simp;omega
       have hix:=lv_idx8 p k hlt
       go_wp2_with fail
       refine (HS.out _ HJ.out.2.1 (p k)).mono ?_
       rintro _ w2 ⟨rfl,hb⟩
       have HJ2:=Bx.mk (show PickI s p k best times∧Below w.heap.size w w2∧Bk w2 w.heap.size #[.int .i64 (p 0),.int .i64 (p 1),.int .i64 (p 2),.int .i64 (p 3),.int .i64 (p 4),.int .i64 (p 5),.int .i64 (p 6),.int .i64 (p 7)] 54 from ⟨HJ.out.1,HJ.out.2.1.trans (hb.mono HJ.out.2.1.size),HJ.out.2.2.later hb⟩)
       clear hb HJ
       by_cases hc:s (p k)=g4
       · have hn:(s (p k) == g4)=true:=by rw [hc];simp
         have HC:=Bx.mk (show Cand s (l8 p) (p k) by unfold Cand;rw [hc,HG.out])
         clear hc
         obtain ⟨c0,c1,c2,c3,c4,c5,c6,c7⟩:=HJ2.out.2.2.c8
         go_wp2_with fail
         clear c0 c1 c2 c3 c4 c5 c6 c7
         go_loopw [12,36] (fun v12 v36 wr => ∃ j:Nat,j≤8∧v36 = .int .i64 j∧v12 = .int .i64 (((l8 p).take j).count (p k):Nat)∧Bx (Below w.heap.size w wr∧Bk wr w.heap.size #[.int .i64 (p 0),.int .i64 (p 1),.int .i64 (p 2),.int .i64 (p 3),.int .i64 (p 4),.int .i64 (p 5),.int .i64 (p 6),.int .i64 (p 7)] 54)) (fun _ i _=>8 - (intOf i).toNat)
         case atStart=>exact ⟨0,Nat.zero_le _,rfl,by simp,⟨HJ2.out.2.1,HJ2.out.2.2⟩⟩
         case round =>
          obtain ⟨j,hj,rfl,rfl,HI⟩:=hrel
          by_cases hjl:j<8
          · have t1:decide ((j:Int)<8)=true:=by simp;omega
            have hjx:=lv_idx8 p j hjl
            have hcp:=l8_count p (p k) hjl
            have hle:=List.count_le_length (a:=p k) (l:=(l8 p).take j)
            rw [List.length_take,l8_len] at hle
            obtain ⟨c1,hc1⟩ : ∃ c1,((l8 p).take (j+1)).count (p k)=c1:=⟨_,rfl⟩
            have HCP:=Bx.mk hc1
            rw [hc1] at hcp
            clear hc1
            generalize ((l8 p).take j).count (p k)=c0 at *
            cases he:(p j == p k) with
            | true =>
              rw [if_pos he] at hcp
              have hw:IntKind.i64.wrap ((c0:Int)+1)=(c1:Int):=by rw [show (c0:Int)+1=(c1:Int) by omega];exact IntWalk.i64_in _ (by omega)
              have HQ:=Bx.mk hcp
              clear hle hix hcp
              go_wp2_with fail
              go_roundw
              case rel=>exact ⟨j+1,by omega,by go_num,by rw [HCP.out];try exact congrArg _ (by have:=HQ.out;omega),HI⟩
              case measure=>simp [intOf];omega
            | false =>
              rw [if_neg (by rw [he];decide)] at hcp
              have HQ:=Bx.mk hcp
              clear hle hix hcp
              go_wp2_with fail
              go_roundw
              case rel=>exact ⟨j+1,by omega,by go_num,by rw [HCP.out];try exact congrArg _ (by have:=HQ.out;omega),HI⟩
              case measure=>simp [intOf];omega
          · have hj8:((j:Nat):Int)=8:=by omega
            rw [hj8]
            obtain rfl:j=8:=by omega
            clear hj8
            have t1:decide ((8:Int)<8)=false:=by decide
            rw [l8_all]
            have HK:=Bx.mk HJ2.out.1
            clear HJ2 hix
            have HN:=Bx.mk (show (((l8 p).count (p k):Nat):Int)=(((l8 p).count (p k):Nat):Int) from rfl)
            obtain ⟨cn,hcn⟩ : ∃ cn:Nat,cn=(l8 p).count (p k):=⟨_,rfl⟩
            rw [←hcn]
            have HCN:=Bx.mk hcn
            clear hcn HN
            by_cases h1:(cn:Int) > times
            · have t2:decide ((cn:Int) > times)=true:=by simpa using h1
              have HR:=Bx.mk (PickI.take HK.out hlt (.inl (by rw [←HCN.out];exact h1)) HC.out)
              clear h1
              go_wp2_with fail
              go_roundw
              case rel=>exact ⟨k+1,p k,cn,by omega,by go_num,rfl,rfl,⟨by have:=HR.out;rwa [←HCN.out] at this,HI.out.1,HI.out.2⟩⟩
              case measure=>simp [intOf];omega
            have t2:decide ((cn:Int) > times)=false:=by simpa using h1
            by_cases h2:(cn:Int)=times
            · have t3:((cn:Int) == times)=true:=by simpa using h2
              by_cases h3:p k<best
              · have t4:decide (p k<best)=true:=by simpa using h3
                have HR:=Bx.mk (PickI.take HK.out hlt (.inr ⟨by rw [←HCN.out];exact h2,h3⟩) HC.out)
                clear h1 h2 h3
                go_wp2_with fail
                go_roundw
                case rel=>exact ⟨k+1,p k,cn,by omega,by go_num,rfl,rfl,⟨by have:=HR.out;rwa [←HCN.out] at this,HI.out.1,HI.out.2⟩⟩
                case measure=>simp [intOf];omega
              · have t4:decide (p k<best)=false:=by simpa using h3
                have HR:=Bx.mk (PickI.keep HK.out hlt (by rw [←HCN.out];exact fun h=>h.elim h1 fun h=>h3 h.2) HC.out)
                clear h1 h2 h3
                go_wp2_with fail
                go_roundw
                case rel=>exact ⟨k+1,best,times,by omega,by go_num,rfl,rfl,⟨HR.out,HI.out.1,HI.out.2⟩⟩
                case measure=>simp [intOf];omega
            · have t3:((cn:Int) == times)=false:=by simpa using h2
              have HR:=Bx.mk (PickI.keep HK.out hlt (by rw [←HCN.out];exact fun h=>h.elim h1 fun h=>h2 h.1) HC.out)
              clear h1 h2
              go_wp2_with fail
              go_roundw
              case rel=>exact ⟨k+1,best,times,by omega,by go_num,rfl,rfl,⟨HR.out,HI.out.1,HI.out.2⟩⟩
              case measure=>simp [intOf];omega
       · have hn:(s (p k) == g4)=false:=by simpa using hc
         have HR:=Bx.mk (PickI.skip HJ2.out.1 hlt (by unfold Cand;rw [←HG.out];exact hc))
         clear hc
         go_wp2_with fail
         go_roundw
         case rel=>exact ⟨k+1,best,times,by omega,by go_num,rfl,rfl,⟨HR.out,HJ2.out.2.1,HJ2.out.2.2⟩⟩
         case measure=>simp [intOf];omega
     · obtain rfl:k=8:=by omega
       have t0:decide (((8:Nat):Int)<8)=false:=by decide
       have HR:=Bx.mk (PickI.done HJ.out.1)
       go_wp2_with fail
       go_ret
       exact ⟨by rw [HR.out];rfl,HJ.out.2.1⟩
end
section
open Go.RowKit Go.Sort Go.Maps
open Oct
theorem lv_at8 (b k:Nat) (hk:k<8) (W:World):(Instr.indexAt 54 (.pointer (some ⟨b,0,none⟩)) (.int .i64 (k:Int))).run Tryz.prog W = .ok (.pointer (some ⟨b,k,none⟩)) W:=by
 have hu : Tryz.prog.underlying 54=some (.array (Tryz.prog.arrayLen 54) (Tryz.prog.elem 54)):=by kernel_rfl
 have h1 : Tryz.prog.cellsOf (Tryz.prog.elem 54)=1:=by kernel_rfl
 have h2 : Tryz.prog.arrayLen 54=8:=by kernel_rfl
 have h0:(0:Int)≤(k:Int)∧(k:Int)<8:=by omega
 rw [run_indexAt_array _ _ _ _ _ hu,h2]
 simp [h0,Addr.add,go_sem]
 exact fun h=>h.symm
end
section
open Go.Sort Go.RowKit
section
variable {P:Program} {l:List Oper} {n:Nat} {R:Nat→Value→World→Prop} {W:World} {a:Act}
theorem ri_anyT (hn:n≤l.length) (B:RelB l n) (hb:backB .any l n=true) (ht:tailT .any l n=true) (hf : ∀ i,i<n→Firm (R i)) (hd : ∀ i d,i<n→dstAt l i=some d→d<a.tmps.size)
 (hop : ∀ i o,i<n→l[i]? = some o → ∀ (ρ:Operand→Value) w,Below W.heap.size W w→(∀ v,ρ (.const v)=v)→(∀ g,ρ (.global g) = .pointer (some ⟨g,0,none⟩))→(∀ f,ρ (.func f) = .func (.func f) #[] #[]) →
  (∀ d,.tmp d∈o.op.operands→Known l n R a d (ρ (.tmp d)) w)→relUpon P w (R i) ((execOp ρ o).run P w))
 {Q:Exit→Act→World→Prop} (hend : ∀ a' w',RI l n R W a (Array.replicate n true) a' w'→wpAny P .any l.toArray Q (l.length - n) (Array.replicate n true++Array.replicate (l.length - n) false) a' w') :
 ∀ (f:Nat) (s:Array Bool) (a':Act) (w':World),s.size=n→Shut .any l s→unl s=f→RI l n R W a s a' w'→wpAny P .any l.toArray Q (f+(l.length - n)) (s++Array.replicate (l.length - n) false) a' w'
 | 0, s, a', w', hs, _, hu, I => by
   have e:s=Array.replicate n true:=by rw [←hs];exact unl_zero hu
   rw [Nat.zero_add,e]
   rw [e] at I
   exact hend a' w' I
 | f + 1, s, a', w', hs, hsh, hu, I => by
   obtain ⟨k,hk,hun⟩:=unl_pos (s:=s) (by omega)
   rw [show f+1+(l.length - n)=(f+(l.length - n))+1 by omega]
   refine ⟨fun h0=>?_,fun i hi=>?_⟩
   · obtain ⟨i,hi⟩:=ready_some (g:=l.length - n) hs hn hb (k+1) k (by omega) (by omega) hun
     rw [h0] at hi;cases hi
   · have hin:=ready_not_tailT hs hsh (by omega:k<n) hun ht hi
     have hiu:s.getD i true=false:=by have:=(mem_ready.1 hi).1;rwa [app_get hs hin] at this
     refine wpOp_mono (fun a'' w'' I'=>?_) (ri_step B hf hd hop hs I hin hi hiu)
     rw [app_set (by omega)]
     refine ri_anyT hn B hb ht hf hd hop hend f _ a'' w'' (by simpa using hs) (shut_set hsh (ready_head hs hin hb hi) hin) ?_ I'
     have:=unl_set (s:=s) (by omega) hiu
     omega
def headRT (l:List Oper) (n:Nat):Bool :=
 decide (n<l.length) && backB .any l n && tailT .any l n && relB l n && Region.seqB .any l.toArray (l.length - n) n (Array.replicate n true++Array.replicate (l.length - n) false)
theorem any_relT {Q:Exit→Act→World→Prop} (n:Nat) (R:Nat→Value→World→Prop) (hB:headRT l n=true) (m:Nat) (hdm:dstB l m=true) (ham:a.tmps.size=m)
 (hf : ∀ i,i<n→Firm (R i))
 (hop : ∀ i o,i<n→l[i]? = some o → ∀ (ρ:Operand→Value) w,Below W.heap.size W w→(∀ v,ρ (.const v)=v)→(∀ g,ρ (.global g) = .pointer (some ⟨g,0,none⟩))→(∀ f,ρ (.func f) = .func (.func f) #[] #[]) →
  (∀ d,.tmp d∈o.op.operands→Known l n R a d (ρ (.tmp d)) w)→relUpon P w (R i) ((execOp ρ o).run P w))
 (h : ∀ (vs:List Value) w',vs.length=n→Below W.heap.size W w'→(∀ i v,vs[i]? = some v→R i v w')→wpList P l.toArray Q (l.drop n) (puts (((l.take n).map (·.dst)).zip vs) a) w'):wpAny P .any l.toArray Q l.toArray.size (Array.replicate l.toArray.size false) a { W with drawn:=W.drawn+1 }:=by
 simp only [headRT,Bool.and_eq_true,decide_eq_true_eq] at hB
 obtain ⟨⟨⟨⟨hn,hb⟩,ht⟩,hrel⟩,hseq⟩:=hB
 have B:=relB_spec hrel
 have hd : ∀ i d,i<n→dstAt l i=some d→d<a.tmps.size:=fun i d _ hd=>by rw [ham];exact dstB_spec hdm hd
 have:=ri_anyT (Q:=Q) (by omega) B hb ht hf hd hop (fun a' w' I=>?_) n (Array.replicate n false) a { W with drawn:=W.drawn+1 } (by simp) (fun m k h=>by
  simp only [Array.getD_eq_getD_getElem?,Array.getElem?_replicate] at h
  split at h <;> simp at h) (by simp [unl])
  ⟨rfl,rfl,fun x _=>rfl,fun i d _ hs=>(by rw [getD_replicate_false] at hs;cases hs),⟨rfl,rfl,rfl,Nat.le_refl _,fun _ _=>rfl⟩⟩
 · have e:Array.replicate n false++Array.replicate (l.length - n) false=Array.replicate l.toArray.size false:=by
    rw [Array.replicate_append_replicate];congr 1;simp;omega
   rw [e,show n+(l.length - n)=l.toArray.size by simp;omega] at this
   exact this
 · have hv : ∀ i,∃ v,i<n→(∃ d,dstAt l i=some d∧a'.tmps[d]? = some v)∧R i v w':=by
    intro i
    by_cases hi:i<n
    · obtain ⟨o,ho⟩ : ∃ o,l[i]? = some o:=⟨_,List.getElem?_eq_getElem (by omega)⟩
      obtain ⟨d,hdd⟩:=B.dst i o hi ho
      have hdl:dstAt l i=some d:=by simp [dstAt,ho,hdd]
      obtain ⟨v,h1,h2⟩:=I.head i d hi (by simp [hi]) hdl
      exact ⟨v,fun _=>⟨⟨d,hdl,h1⟩,h2⟩⟩
    · exact ⟨undef,fun h=>absurd h hi⟩
   obtain ⟨g,hg⟩:=Classical.axiomOfChoice hv
   have hlen:((List.range n).map g).length=n:=by simp
   have hz : ∀ i,i<n→(((l.take n).map (·.dst)).zip ((List.range n).map g))[i]? = some (dstAt l i,g i):=by
    intro i hi
    rw [(List.getElem?_zip_eq_some (z:=(dstAt l i,g i))).2]
    refine ⟨?_,by simp [hi]⟩
    rw [List.getElem?_map,List.getElem?_take,if_pos hi]
    unfold dstAt
    rw [List.getElem?_eq_getElem (show i<l.length by omega)];rfl
   have hlt : ∀ {i p},(((l.take n).map (·.dst)).zip ((List.range n).map g))[i]? = some p→i<n:=by
    intro i p hp
    have:=(List.getElem?_eq_some_iff.1 hp).1
    simp at this;omega
   have heq:a'=puts (((l.take n).map (·.dst)).zip ((List.range n).map g)) a:=by
    refine act_ext ?_ fun x=>?_
    · rw [(puts_size _ _).2];exact I.defers
    · by_cases hx : ∃ i,i<n∧dstAt l i=some x
      · obtain ⟨i,hi,hdx⟩:=hx
        obtain ⟨⟨d,h1,h2⟩,_⟩:=hg i hi
        rw [hdx] at h1
        obtain rfl:=Option.some.inj h1
        rw [h2]
        symm
        refine puts_in _ a x _ (hd i x hi hdx) ?_ (List.mem_iff_getElem?.2 ⟨i,by rw [hz i hi,hdx]⟩)
        rw [List.pairwise_iff_getElem]
        intro p q hp hq hpq d' e1 e2
        have n1:=hz p (hlt (List.getElem?_eq_getElem hp))
        have n2:=hz q (hlt (List.getElem?_eq_getElem hq))
        rw [List.getElem?_eq_getElem hp] at n1
        rw [List.getElem?_eq_getElem hq] at n2
        rw [Option.some.inj n1] at e1
        rw [Option.some.inj n2] at e2
        exact B.dist p q d' (hlt (List.getElem?_eq_getElem hp)) (hlt (List.getElem?_eq_getElem hq)) (by omega) e1 e2
      · rw [puts_out _ _ x (fun p hp e=>by
         obtain ⟨i,hi⟩:=List.mem_iff_getElem?.1 hp
         have hin:=hlt hi
         rw [hz i hin] at hi
         have:=Option.some.inj hi
         subst this
         exact hx ⟨i,hin,e⟩)]
        exact I.old x fun i hi _ e=>hx ⟨i,hi,e⟩
   have hres:=h ((List.range n).map g) w' hlen I.below (fun i v hi=>by
    have hin:i<n:=by have:=(List.getElem?_eq_some_iff.1 hi).1;simpa using this
    have:v=g i:=by simpa [hin] using hi.symm
    rw [this];exact (hg i hin).2)
   rw [←heq] at hres
   have:=wpAny_of_seq (P:=P) (md:=.any) (ops:=l.toArray) (Q':=Q) (l.drop n) n (Array.replicate n true++Array.replicate (l.length - n) false) a' w' (fun j=>by simp [List.getElem?_drop]) (by simpa using hseq) hres
   simpa using this
theorem wp_region_relT {id:Nat} {Q:Exit→Act→World→Prop} (n:Nat) (R:Nat→Value→World→Prop) (hm:P.follows .mixedOrders=true) (hB:headRT l n=true) (m:Nat) (hdm:dstB l m=true) (ham:a.tmps.size=m)
 (hf : ∀ i,i<n→Firm (R i))
 (hop : ∀ i o,i<n→l[i]? = some o → ∀ (ρ:Operand→Value) w,Below W.heap.size W w→(∀ v,ρ (.const v)=v)→(∀ g,ρ (.global g) = .pointer (some ⟨g,0,none⟩))→(∀ f,ρ (.func f) = .func (.func f) #[] #[]) →
  (∀ d,.tmp d∈o.op.operands→Known l n R a d (ρ (.tmp d)) w)→relUpon P w (R i) ((execOp ρ o).run P w))
 (h : ∀ (vs:List Value) w',vs.length=n→Below W.heap.size W w'→(∀ i v,vs[i]? = some v→R i v w')→wpList P l.toArray Q (l.drop n) (puts (((l.take n).map (·.dst)).zip vs) a) w'):(Code.region id l.toArray true).wp P Q a W :=
 wp_region_any hm (any_relT n R hB m hdm ham hf hop h)
end
end
section
open Go.Sort Go.RowKit
def textOp (o:Oper):Bool:=match o.op with
 | .move _ | .assign _ | .extract .. => true
 | _=>false
theorem none_in {x:Event} : ¬x∈(#[]:Array Event):=by simp
section
variable {P:Program} {ops:Array Oper} {Q:Exit→Act→World→Prop} {a:Act} {w:World}
theorem text_step {o:Oper} (ht:textOp o=true) {K:Act→World→Prop} (h:o.wp P a w K Q∨(o.asks P a w∧LetsOut Q)):o.quiet P a (fun w'=>w'=w) (fun a'=>K a' w):=by
 unfold textOp at ht
 unfold Oper.quiet Oper.quietAt Oper.wp Oper.asks at *
 obtain ⟨op,dst,g,af⟩:=o
 simp only at ht
 split at ht
 · rcases h with h | ⟨h,-⟩
   · exact ⟨_,fun w' e=>by subst e;exact ⟨rfl,rfl⟩,h⟩
   · exact absurd h.1 none_in
 · rcases h with h | ⟨h,-⟩
   · exact ⟨_,fun w' e=>by subst e;exact ⟨rfl,rfl⟩,h⟩
   · exact absurd h.1 none_in
 · rename_i t ix
   simp only [execOp] at h ⊢
   generalize a.eval t=v at *
   unfold Instr.extract at h
   split at h
   · rename_i vs
     split at h
     · rename_i x hx
       rcases h with h | ⟨h,-⟩
       · refine ⟨x,fun w' e=>?_,h⟩
         subst e
         rw [show Instr.extract (Value.tuple vs) ix=pure x by unfold Instr.extract;simp only [hx]]
         exact ⟨rfl,rfl⟩
       · exact absurd h.1 none_in
     · rcases h with h | ⟨h,-⟩
       · exact h.elim
       · exact absurd h.1 none_in
   · rcases h with h | ⟨h,-⟩
     · exact h.elim
     · exact absurd h.1 none_in
 · cases ht
theorem text_quiet : ∀ (l:List Oper) (a:Act),l.all textOp=true→wpList P ops Q l a w→wpQuiet P ops (fun w'=>w'=w) (fun a'=>Q .normal a' w) l a
 | [],_,_,h=>h
 | o :: l, a, hl, h => by
   simp only [List.all_cons,Bool.and_eq_true] at hl
   unfold wpList at h
   unfold wpQuiet
   split
   · rename_i hw
     rw [if_pos hw] at h
     exact Oper.quiet_mono (fun a' h'=>text_quiet l a' hl.2 h') (text_step hl.1 h)
   · rename_i hw
     rw [if_neg hw] at h
     exact text_quiet l _ hl.2 h
def seqX (md:Region.Mode) (ops:Array Oper):Nat→List Oper→Nat→Array Bool→Bool
 | 0,l,k,listed=>l.all textOp && Region.noSelect ops && Region.lexFrom md ops l.length k listed
 | _+1,[],_,listed=>(Region.ready md ops listed).isEmpty
 | m+1,_::l,k,listed=>decide (Region.ready md ops listed=[k]) && seqX md ops m l (k+1) (listed.setIfInBounds k true)
theorem wpAny_of_seqX {md:Region.Mode} : ∀ (m:Nat) (l:List Oper) (k:Nat) (listed:Array Bool) (a:Act) (w:World),(∀ j,l[j]? = ops[k+j]?) →
 seqX md ops m l k listed=true→wpList P ops Q l a w→wpAny P md ops Q l.length listed a w
 | 0, l, k, listed, a, w, hl, hB, h => by
   simp only [seqX,Bool.and_eq_true] at hB
   exact wpAny_of_quiet (C:=fun w'=>w'=w) (Q:=fun a'=>Q .normal a' w) (fun a' w' e h'=>by subst e;exact h') _ _ _ _ rfl (wpAnyQ_lex hB.1.2 l k listed a hl hB.2 (text_quiet l a hB.1.1 h))
 | _+1,[],_,_,_,_,_,hB,h=>⟨by simpa [seqX] using hB,h⟩
 | m + 1, o :: l, k, listed, a, w, hl, hB, h => by
   have h0:ops[k]? = some o:=by simpa using (hl 0).symm
   simp only [seqX,Bool.and_eq_true,decide_eq_true_eq] at hB
   refine ⟨fun h1=>(by rw [hB.1] at h1;cases h1),fun i hi=>?_⟩
   rw [hB.1] at hi
   have hik:i=k:=by simpa using hi
   subst hik
   have hw:wpOp P ops Q i (wpList P ops Q l) a w:=by unfold wpOp;simp only [h0];exact h
   exact wpOp_mono (fun a' w' h'=>wpAny_of_seqX m l (i+1) _ a' w' (fun j=>by have:=hl (j+1);simpa [Nat.add_assoc,Nat.add_comm 1 j] using this) hB.2 h') hw
end
def tailX (l:List Oper) (n:Nat):Bool :=
 ((List.range n).all fun k=>Region.waitsFor .any l.toArray n k || (List.range n).any fun m=>decide (k<m) && Region.waitsFor .any l.toArray m k) && (List.range l.length).all fun t=>decide (t≤n) || (List.range t).any fun u=>decide (n≤u) && Region.waitsFor .any l.toArray t u
section
variable {l:List Oper} {n:Nat}
theorem not_firstX {s:Array Bool} (hs:s.size=n) {g:Nat} (hsh:Shut .any l s) (ht:tailX l n=true) (h:n∈Region.ready .any l.toArray (s++Array.replicate g false)) : ∀ (d k:Nat),n - k≤d→k<n→s.getD k false=false→False
 | 0,k,h1,h2,_=>by omega
 | d + 1, k, hd, hk, hun => by
   obtain ⟨h1,o,ho,h2⟩:=mem_ready.1 h
   have ht':=ht
   simp only [tailX,Bool.and_eq_true] at ht'
   have h3:=List.all_eq_true.1 ht'.1 k (List.mem_range.2 hk)
   simp only [Bool.or_eq_true] at h3
   rcases h3 with h3 | h3
   · obtain ⟨o',ho',e,he,hbi,hon⟩:=Region.waitsFor_spec h3
     obtain rfl:o'=o:=Option.some.inj (ho'.symm.trans ho)
     have:=h2 e he hbi
     rw [hon,app_get hs hk,hun] at this
     cases this
   · obtain ⟨m,hm,h4⟩:=List.any_eq_true.1 h3
     simp only [Bool.and_eq_true,decide_eq_true_eq] at h4
     have hmn:=List.mem_range.1 hm
     refine not_firstX hs hsh ht h d m (by omega) hmn ?_
     cases hx:s.getD m false with
     | false=>rfl
     | true=>have:=hsh m k hx h4.2;rw [hun] at this;cases this
theorem ready_not_tailX {s:Array Bool} (hs:s.size=n) (hsh:Shut .any l s) {g i k:Nat} (hk:k<n) (hun:s.getD k false=false) (ht:tailX l n=true) (h:i∈Region.ready .any l.toArray (s++Array.replicate g false)):i<n:=by
 obtain ⟨h1,o,ho,h2⟩:=mem_ready.1 h
 rcases Nat.lt_or_ge i n with hlt | hge
 · exact hlt
 · exfalso
   have hil:i<l.length:=by have:=(Array.getElem?_eq_some_iff.1 ho).1;simpa using this
   by_cases hin:i=n
   · subst hin
     exact not_firstX hs hsh ht h (i - k) k (Nat.le_refl _) hk hun
   · have ht':=ht
     simp only [tailX,Bool.and_eq_true] at ht'
     have h3:=List.all_eq_true.1 ht'.2 i (List.mem_range.2 hil)
     simp only [Bool.or_eq_true,decide_eq_true_eq] at h3
     rcases h3 with h3 | h3
     · omega
     · obtain ⟨u,hu,h4⟩:=List.any_eq_true.1 h3
       simp only [Bool.and_eq_true,decide_eq_true_eq] at h4
       obtain ⟨o',ho',e,he,hbi,hon⟩:=Region.waitsFor_spec h4.2
       obtain rfl:o'=o:=Option.some.inj (ho'.symm.trans ho)
       have:=h2 e he hbi
       rw [hon,app_tail hs (by omega)] at this
       cases this
end
section
variable {P:Program} {l:List Oper} {n:Nat} {R:Nat→Value→World→Prop} {W:World} {a:Act}
theorem ri_anyX (hn:n≤l.length) (B:RelB l n) (hb:backB .any l n=true) (ht:tailX l n=true) (hf : ∀ i,i<n→Firm (R i)) (hd : ∀ i d,i<n→dstAt l i=some d→d<a.tmps.size)
 (hop : ∀ i o,i<n→l[i]? = some o → ∀ (ρ:Operand→Value) w,Below W.heap.size W w→(∀ v,ρ (.const v)=v)→(∀ g,ρ (.global g) = .pointer (some ⟨g,0,none⟩))→(∀ f,ρ (.func f) = .func (.func f) #[] #[]) →
  (∀ d,.tmp d∈o.op.operands→Known l n R a d (ρ (.tmp d)) w)→relUpon P w (R i) ((execOp ρ o).run P w))
 {Q:Exit→Act→World→Prop} (hend : ∀ a' w',RI l n R W a (Array.replicate n true) a' w'→wpAny P .any l.toArray Q (l.length - n) (Array.replicate n true++Array.replicate (l.length - n) false) a' w') :
 ∀ (f:Nat) (s:Array Bool) (a':Act) (w':World),s.size=n→Shut .any l s→unl s=f→RI l n R W a s a' w'→wpAny P .any l.toArray Q (f+(l.length - n)) (s++Array.replicate (l.length - n) false) a' w'
 | 0, s, a', w', hs, _, hu, I => by
   have e:s=Array.replicate n true:=by rw [←hs];exact unl_zero hu
   rw [Nat.zero_add,e]
   rw [e] at I
   exact hend a' w' I
 | f + 1, s, a', w', hs, hsh, hu, I => by
   obtain ⟨k,hk,hun⟩:=unl_pos (s:=s) (by omega)
   rw [show f+1+(l.length - n)=(f+(l.length - n))+1 by omega]
   refine ⟨fun h0=>?_,fun i hi=>?_⟩
   · obtain ⟨i,hi⟩:=ready_some (g:=l.length - n) hs hn hb (k+1) k (by omega) (by omega) hun
     rw [h0] at hi;cases hi
   · have hin:=ready_not_tailX hs hsh (by omega:k<n) hun ht hi
     have hiu:s.getD i true=false:=by have:=(mem_ready.1 hi).1;rwa [app_get hs hin] at this
     refine wpOp_mono (fun a'' w'' I'=>?_) (ri_step B hf hd hop hs I hin hi hiu)
     rw [app_set (by omega)]
     refine ri_anyX hn B hb ht hf hd hop hend f _ a'' w'' (by simpa using hs) (shut_set hsh (ready_head hs hin hb hi) hin) ?_ I'
     have:=unl_set (s:=s) (by omega) hiu
     omega
def headRX (l:List Oper) (n m:Nat):Bool :=
 decide (n<l.length) && backB .any l n && tailX l n && relB l n && seqX .any l.toArray m (l.drop n) n (Array.replicate n true++Array.replicate (l.length - n) false)
theorem any_relX {Q:Exit→Act→World→Prop} (n m:Nat) (R:Nat→Value→World→Prop) (hB:headRX l n m=true) (mt:Nat) (hdm:dstB l mt=true) (ham:a.tmps.size=mt)
 (hf : ∀ i,i<n→Firm (R i))
 (hop : ∀ i o,i<n→l[i]? = some o → ∀ (ρ:Operand→Value) w,Below W.heap.size W w→(∀ v,ρ (.const v)=v)→(∀ g,ρ (.global g) = .pointer (some ⟨g,0,none⟩))→(∀ f,ρ (.func f) = .func (.func f) #[] #[]) →
  (∀ d,.tmp d∈o.op.operands→Known l n R a d (ρ (.tmp d)) w)→relUpon P w (R i) ((execOp ρ o).run P w))
 (h : ∀ (vs:List Value) w',vs.length=n→Below W.heap.size W w'→(∀ i v,vs[i]? = some v→R i v w')→wpList P l.toArray Q (l.drop n) (puts (((l.take n).map (·.dst)).zip vs) a) w'):wpAny P .any l.toArray Q l.toArray.size (Array.replicate l.toArray.size false) a { W with drawn:=W.drawn+1 }:=by
 simp only [headRX,Bool.and_eq_true,decide_eq_true_eq] at hB
 obtain ⟨⟨⟨⟨hn,hb⟩,ht⟩,hrel⟩,hseq⟩:=hB
 have B:=relB_spec hrel
 have hd : ∀ i d,i<n→dstAt l i=some d→d<a.tmps.size:=fun i d _ hd=>by rw [ham];exact dstB_spec hdm hd
 have:=ri_anyX (Q:=Q) (by omega) B hb ht hf hd hop (fun a' w' I=>?_) n (Array.replicate n false) a { W with drawn:=W.drawn+1 } (by simp) (fun m k h=>by
  simp only [Array.getD_eq_getD_getElem?,Array.getElem?_replicate] at h
  split at h <;> simp at h) (by simp [unl])
  ⟨rfl,rfl,fun x _=>rfl,fun i d _ hs=>(by rw [getD_replicate_false] at hs;cases hs),⟨rfl,rfl,rfl,Nat.le_refl _,fun _ _=>rfl⟩⟩
 · have e:Array.replicate n false++Array.replicate (l.length - n) false=Array.replicate l.toArray.size false:=by
    rw [Array.replicate_append_replicate];congr 1;simp;omega
   rw [e,show n+(l.length - n)=l.toArray.size by simp;omega] at this
   exact this
 · have hv : ∀ i,∃ v,i<n→(∃ d,dstAt l i=some d∧a'.tmps[d]? = some v)∧R i v w':=by
    intro i
    by_cases hi:i<n
    · obtain ⟨o,ho⟩ : ∃ o,l[i]? = some o:=⟨_,List.getElem?_eq_getElem (by omega)⟩
      obtain ⟨d,hdd⟩:=B.dst i o hi ho
      have hdl:dstAt l i=some d:=by simp [dstAt,ho,hdd]
      obtain ⟨v,h1,h2⟩:=I.head i d hi (by simp [hi]) hdl
      exact ⟨v,fun _=>⟨⟨d,hdl,h1⟩,h2⟩⟩
    · exact ⟨undef,fun h=>absurd h hi⟩
   obtain ⟨g,hg⟩:=Classical.axiomOfChoice hv
   have hlen:((List.range n).map g).length=n:=by simp
   have hz : ∀ i,i<n→(((l.take n).map (·.dst)).zip ((List.range n).map g))[i]? = some (dstAt l i,g i):=by
    intro i hi
    rw [(List.getElem?_zip_eq_some (z:=(dstAt l i,g i))).2]
    refine ⟨?_,by simp [hi]⟩
    rw [List.getElem?_map,List.getElem?_take,if_pos hi]
    unfold dstAt
    rw [List.getElem?_eq_getElem (show i<l.length by omega)];rfl
   have hlt : ∀ {i p},(((l.take n).map (·.dst)).zip ((List.range n).map g))[i]? = some p→i<n:=by
    intro i p hp
    have:=(List.getElem?_eq_some_iff.1 hp).1
    simp at this;omega
   have heq:a'=puts (((l.take n).map (·.dst)).zip ((List.range n).map g)) a:=by
    refine act_ext ?_ fun x=>?_
    · rw [(puts_size _ _).2];exact I.defers
    · by_cases hx : ∃ i,i<n∧dstAt l i=some x
      · obtain ⟨i,hi,hdx⟩:=hx
        obtain ⟨⟨d,h1,h2⟩,_⟩:=hg i hi
        rw [hdx] at h1
        obtain rfl:=Option.some.inj h1
        rw [h2]
        symm
        refine puts_in _ a x _ (hd i x hi hdx) ?_ (List.mem_iff_getElem?.2 ⟨i,by rw [hz i hi,hdx]⟩)
        rw [List.pairwise_iff_getElem]
        intro p q hp hq hpq d' e1 e2
        have n1:=hz p (hlt (List.getElem?_eq_getElem hp))
        have n2:=hz q (hlt (List.getElem?_eq_getElem hq))
        rw [List.getElem?_eq_getElem hp] at n1
        rw [List.getElem?_eq_getElem hq] at n2
        rw [Option.some.inj n1] at e1
        rw [Option.some.inj n2] at e2
        exact B.dist p q d' (hlt (List.getElem?_eq_getElem hp)) (hlt (List.getElem?_eq_getElem hq)) (by omega) e1 e2
      · rw [puts_out _ _ x (fun p hp e=>by
         obtain ⟨i,hi⟩:=List.mem_iff_getElem?.1 hp
         have hin:=hlt hi
         rw [hz i hin] at hi
         have:=Option.some.inj hi
         subst this
         exact hx ⟨i,hin,e⟩)]
        exact I.old x fun i hi _ e=>hx ⟨i,hi,e⟩
   have hres:=h ((List.range n).map g) w' hlen I.below (fun i v hi=>by
    have hin:i<n:=by have:=(List.getElem?_eq_some_iff.1 hi).1;simpa using this
    have:v=g i:=by simpa [hin] using hi.symm
    rw [this];exact (hg i hin).2)
   rw [←heq] at hres
   have:=wpAny_of_seqX (P:=P) (md:=.any) (ops:=l.toArray) (Q:=Q) m (l.drop n) n (Array.replicate n true++Array.replicate (l.length - n) false) a' w' (fun j=>by simp [List.getElem?_drop]) hseq hres
   simpa using this
theorem wp_region_relX {id:Nat} {Q:Exit→Act→World→Prop} (n m:Nat) (R:Nat→Value→World→Prop) (hm:P.follows .mixedOrders=true) (hB:headRX l n m=true) (mt:Nat) (hdm:dstB l mt=true) (ham:a.tmps.size=mt)
 (hf : ∀ i,i<n→Firm (R i))
 (hop : ∀ i o,i<n→l[i]? = some o → ∀ (ρ:Operand→Value) w,Below W.heap.size W w→(∀ v,ρ (.const v)=v)→(∀ g,ρ (.global g) = .pointer (some ⟨g,0,none⟩))→(∀ f,ρ (.func f) = .func (.func f) #[] #[]) →
  (∀ d,.tmp d∈o.op.operands→Known l n R a d (ρ (.tmp d)) w)→relUpon P w (R i) ((execOp ρ o).run P w))
 (h : ∀ (vs:List Value) w',vs.length=n→Below W.heap.size W w'→(∀ i v,vs[i]? = some v→R i v w')→wpList P l.toArray Q (l.drop n) (puts (((l.take n).map (·.dst)).zip vs) a) w'):(Code.region id l.toArray true).wp P Q a W :=
 wp_region_any hm (any_relX n m R hB mt hdm ham hf hop h)
end
end
end Go.Proofs.YtgnfgblkpnfcnaaGreatDoor
