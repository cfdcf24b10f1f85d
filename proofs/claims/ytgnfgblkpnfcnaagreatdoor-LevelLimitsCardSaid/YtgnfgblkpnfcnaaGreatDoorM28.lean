/- Lpk, Lpr, RlT: joined by program, for one claim. -/
import Derived.Test.YtgnfgblkpnfcnaaGreatDoorM27
import Derived.Deep.LoopGhost
import Derived.Deep.DeepCutAuto
import Derived.Test.YtgnfgblkpnfcnaaGreatDoorM4
import Derived.Test.YtgnfgblkpnfcnaaGreatDoorM10
set_option linter.unusedVariables false
set_option linter.unusedSimpArgs false
namespace Go.Proofs.YtgnfgblkpnfcnaaGreatDoor
section
open Go.RowKit Go.Sort Go.Maps
open Oct
theorem lv_idx8 (p:Nat→Int) (k:Nat) (hk:k<8) (W:World):(Instr.index 54 (.agg #[.int .i64 (p 0),.int .i64 (p 1),.int .i64 (p 2),.int .i64 (p 3),.int .i64 (p 4),.int .i64 (p 5),.int .i64 (p 6),.int .i64 (p 7)]) (.int .i64 (k:Int))).run Tryz.prog W = .ok (.int .i64 (p k)) W:=by
 have hu:=Tryz.underlying54
 have h1 : Tryz.prog.cellsOf 3=1:=by kernel_rfl
 have hc:(#[.int .i64 (p 0),.int .i64 (p 1),.int .i64 (p 2),.int .i64 (p 3),.int .i64 (p 4),.int .i64 (p 5),.int .i64 (p 6),.int .i64 (p 7)]:Array Value)[k]? = some (.int .i64 (p k)):=by
  have h0:k=0∨k=1∨k=2∨k=3∨k=4∨k=5∨k=6∨k=7:=by omega
  rcases h0 with rfl | rfl | rfl | rfl | rfl | rfl | rfl | rfl <;> rfl
 have h0:(0:Int)≤(k:Int)∧(k:Int)<8:=by omega
 generalize (#[.int .i64 (p 0),.int .i64 (p 1),.int .i64 (p 2),.int .i64 (p 3),.int .i64 (p 4),.int .i64 (p 5),.int .i64 (p 6),.int .i64 (p 7)]:Array Value)=cs at *
 simp [Instr.index,run_underlying hu,asIntOf,h0,go_sem]
 rw [if_pos hk,hc]
 rfl
theorem l8_countP (s:Int→Bool) (p:Nat→Int) {k:Nat} (hk:k<8):((l8 p).take (k+1)).countP s=((l8 p).take k).countP s+if s (p k)=true then 1 else 0:=by
 rw [l8_take p hk,List.countP_append,List.countP_cons,List.countP_nil,Nat.zero_add]
theorem l8_count (p:Nat→Int) (c:Int) {k:Nat} (hk:k<8):((l8 p).take (k+1)).count c=((l8 p).take k).count c+if (p k == c)=true then 1 else 0:=by
 rw [l8_take p hk,List.count_append,List.count_cons,List.count_nil,Nat.zero_add]
set_option maxRecDepth 100000 in
set_option maxHeartbeats 4000000 in
theorem lv_pick (ta:Option Addr) (tc:Nat) (L:List Mat) (p:Nat→Int) (hl:L.length≤1000000000) (w:World) (hT:SlM w ta L) :
 Calls Tryz.prog 23 #[.slice ta L.length tc,.agg #[.int .i64 (p 0),.int .i64 (p 1),.int .i64 (p 2),.int .i64 (p 3),.int .i64 (p 4),.int .i64 (p 5),.int .i64 (p 6),.int .i64 (p 7)]] w fun e w'=>e = .returned (.int .i64 (pickV (solT L) (l8 p)))∧Below w.heap.size w w':=by
 have HS:=Bx.mk fun W (hb:Below w.heap.size w W) c=>mat_solid ta tc L c hl W (hT.below hb)
 generalize solT L=s at *
 generalize L.length=nl at *
 clear hT hl
 go_enter Tryz.func23,Tryz.ntmps23
 go_upto_region 1 with fail
 generalize hW:World.alloc w _=W
 have HB:=Bx.mk (show Below w.heap.size w W by rw [←hW];exact (Below.refl _ _).alloc (Nat.le_refl _) _)
 have KB:=Bx.mk (show Bk W w.heap.size #[.int .i64 (p 0),.int .i64 (p 1),.int .i64 (p 2),.int .i64 (p 3),.int .i64 (p 4),.int .i64 (p 5),.int .i64 (p 6),.int .i64 (p 7)] 54 by rw [←hW];exact blk_new _ _ _ rfl)
 clear hW
 obtain ⟨c0,c1,c2,c3,c4,c5,c6,c7⟩:=KB.out.c8
 go_wp2_with fail
 clear c0 c1 c2 c3 c4 c5 c6 c7
 go_loopw [5,16] (fun v5 v16 wr => ∃ k:Nat,k≤8∧v16 = .int .i64 k∧v5 = .int .i64 (((l8 p).take k).countP s:Nat)∧Bx (Below w.heap.size w wr∧Bk wr w.heap.size #[.int .i64 (p 0),.int .i64 (p 1),.int .i64 (p 2),.int .i64 (p 3),.int .i64 (p 4),.int .i64 (p 5),.int .i64 (p 6),.int .i64 (p 7)] 54)) (fun _ i _=>8 - (intOf i).toNat)
 case atStart=>exact ⟨0,Nat.zero_le _,rfl,by simp,⟨HB.out,KB.out⟩⟩
 case round =>
  obtain ⟨k,hk,rfl,rfl,HI⟩:=hrel
  clear HB KB
  by_cases hlt:k<8
  · have t0:decide ((k:Int)<8)=true:=by simp;omega
    have hix:=lv_idx8 p k hlt
    have hcp:=l8_countP s p hlt
    have hle:=List.countP_le_length (p:=s) (l:=(l8 p).take k)
    rw [List.length_take,l8_len] at hle
    obtain ⟨c1,hc1⟩ : ∃ c1,((l8 p).take (k+1)).countP s=c1:=⟨_,rfl⟩
    have HCP:=Bx.mk hc1
    rw [hc1] at hcp
    clear hc1
    generalize ((l8 p).take k).countP s=c0 at *
    go_wp2_with fail
    refine (HS.out _ HI.out.1 (p k)).mono ?_
    rintro _ w2 ⟨rfl,hb⟩
    have HI2:=Bx.mk (show Below w.heap.size w w2∧Bk w2 w.heap.size #[.int .i64 (p 0),.int .i64 (p 1),.int .i64 (p 2),.int .i64 (p 3),.int .i64 (p 4),.int .i64 (p 5),.int .i64 (p 6),.int .i64 (p 7)] 54 from ⟨HI.out.1.trans (hb.mono HI.out.1.size),HI.out.2.later hb⟩)
    clear hb HI
    cases hs:s (p k) with
    | true =>
      rw [if_pos hs] at hcp
      have hw:IntKind.i64.wrap ((c0:Int)+1)=(c1:Int):=by rw [show (c0:Int)+1=(c1:Int) by omega];exact IntWalk.i64_in _ (by omega)
      have HQ:=Bx.mk hcp
      clear hle hs hcp
      go_wp2_with fail
      go_roundw
      case rel=>exact ⟨k+1,by omega,by go_num,by rw [HCP.out];try exact congrArg _ (by have:=HQ.out;omega),HI2⟩
      case measure=>simp [intOf];omega
    | false =>
      rw [if_neg (by rw [hs];decide)] at hcp
      have HQ:=Bx.mk hcp
      clear hle hs hcp
      go_wp2_with fail
      go_roundw
      case rel=>exact ⟨k+1,by omega,by go_num,by rw [HCP.out];try exact congrArg _ (by have:=HQ.out;omega),HI2⟩
      case measure=>simp [intOf];omega
  · have hk8:((k:Nat):Int)=8:=by omega
    rw [hk8]
    obtain rfl:k=8:=by omega
    clear hk8
    have t0:decide ((8:Int)<8)=false:=by decide
    rw [l8_all]
    obtain ⟨g4,hg4⟩ : ∃ g,g=decide (4≤(l8 p).countP s):=⟨_,rfl⟩
    obtain ⟨tot,htot⟩ : ∃ t:Nat,t=(l8 p).countP s:=⟨_,rfl⟩
    rw [←htot]
    have hge:decide ((tot:Int) ≥ 4)=g4:=by rw [hg4,←htot,Bool.eq_iff_iff];simp;omega
    have HG:=Bx.mk hg4
    clear hg4 htot
    obtain ⟨c0,c1,c2,c3,c4,c5,c6,c7⟩:=HI.out.2.c8
    go_wp2_with fail
    clear c0 c1 c2 c3 c4 c5 c6 c7
    go_loopw [8,9,26] (fun v8 v9 v26 wr => ∃ k:Nat,∃ best times:Int,k≤8∧v26 = .int .i64 k∧v8 = .int .i64 best∧v9 = .int .i64 times∧Bx (PickI s p k best times∧Below w.heap.size w wr∧Bk wr w.heap.size #[.int .i64 (p 0),.int .i64 (p 1),.int .i64 (p 2),.int .i64 (p 3),.int .i64 (p 4),.int .i64 (p 5),.int .i64 (p 6),.int .i64 (p 7)] 54)) (fun _ _ i _=>8 - (intOf i).toNat)
    case atStart=>exact ⟨0,0,0,Nat.zero_le _,rfl,rfl,rfl,⟨PickI.start s p,HI.out.1,HI.out.2⟩⟩
    case round =>
     obtain ⟨k,best,times,hk,rfl,rfl,rfl,HJ⟩:=hrel
     clear HI t0
     by_cases hlt:k<8
     · have t0:decide ((k:Int)<8)=true:=by simp;omega
       have hix:=lv_idx8 p k hlt
       go_wp2_with fail
       refine (HS.out _ HJ.out.2.1 (p k)).mono ?_
       rintro _ w2 ⟨rfl,hb⟩
       have HJ2:=Bx.mk (show PickI s p k best times∧Below w.heap.size w w2∧Bk w2 w.heap.size #[.int .i64 (p 0),.int .i64 (p 1),.int .i64 (p 2),.int .i64 (p 3),.int .i64 (p 4),.int .i64 (p 5),.int .i64 (p 6),.int .i64 (p 7)] 54 from ⟨HJ.out.1,HJ.out.2.1.trans (hb.mono HJ.out.2.1.size),HJ.out.2.2.later hb⟩)
       clear hb HJ
       by_cases hc:s (p k)=g4
       · have hn:(s (p k) == g4)=true:=by rw [hc];simp
         have HC:=Bx.mk (show Cand s (l8 p) (p k) by unfold Cand;rw [hc,HG.out])
         clear hc
         obtain ⟨c0,c1,c2,c3,c4,c5,c6,c7⟩:=HJ2.out.2.2.c8
         go_wp2_with fail
         clear c0 c1 c2 c3 c4 c5 c6 c7
         go_loopw [12,36] (fun v12 v36 wr => ∃ j:Nat,j≤8∧v36 = .int .i64 j∧v12 = .int .i64 (((l8 p).take j).count (p k):Nat)∧Bx (Below w.heap.size w wr∧Bk wr w.heap.size #[.int .i64 (p 0),.int .i64 (p 1),.int .i64 (p 2),.int .i64 (p 3),.int .i64 (p 4),.int .i64 (p 5),.int .i64 (p 6),.int .i64 (p 7)] 54)) (fun _ i _=>8 - (intOf i).toNat)
         case atStart=>exact ⟨0,Nat.zero_le _,rfl,by simp,⟨HJ2.out.2.1,HJ2.out.2.2⟩⟩
         case round =>
          obtain ⟨j,hj,rfl,rfl,HI⟩:=hrel
          by_cases hjl:j<8
          · have t1:decide ((j:Int)<8)=true:=by simp;omega
            have hjx:=lv_idx8 p j hjl
            have hcp:=l8_count p (p k) hjl
            have hle:=List.count_le_length (a:=p k) (l:=(l8 p).take j)
            rw [List.length_take,l8_len] at hle
            obtain ⟨c1,hc1⟩ : ∃ c1,((l8 p).take (j+1)).count (p k)=c1:=⟨_,rfl⟩
            have HCP:=Bx.mk hc1
            rw [hc1] at hcp
            clear hc1
            generalize ((l8 p).take j).count (p k)=c0 at *
            cases he:(p j == p k) with
            | true =>
              rw [if_pos he] at hcp
              have hw:IntKind.i64.wrap ((c0:Int)+1)=(c1:Int):=by rw [show (c0:Int)+1=(c1:Int) by omega];exact IntWalk.i64_in _ (by omega)
              have HQ:=Bx.mk hcp
              clear hle hix hcp
              go_wp2_with fail
              go_roundw
              case rel=>exact ⟨j+1,by omega,by go_num,by rw [HCP.out];try exact congrArg _ (by have:=HQ.out;omega),HI⟩
              case measure=>simp [intOf];omega
            | false =>
              rw [if_neg (by rw [he];decide)] at hcp
              have HQ:=Bx.mk hcp
              clear hle hix hcp
              go_wp2_with fail
              go_roundw
              case rel=>exact ⟨j+1,by omega,by go_num,by rw [HCP.out];try exact congrArg _ (by have:=HQ.out;omega),HI⟩
              case measure=>simp [intOf];omega
          · have hj8:((j:Nat):Int)=8:=by omega
            rw [hj8]
            obtain rfl:j=8:=by omega
            clear hj8
            have t1:decide ((8:Int)<8)=false:=by decide
            rw [l8_all]
            have HK:=Bx.mk HJ2.out.1
            clear HJ2 hix
            have HN:=Bx.mk (show (((l8 p).count (p k):Nat):Int)=(((l8 p).count (p k):Nat):Int) from rfl)
            obtain ⟨cn,hcn⟩ : ∃ cn:Nat,cn=(l8 p).count (p k):=⟨_,rfl⟩
            rw [←hcn]
            have HCN:=Bx.mk hcn
            clear hcn HN
            by_cases h1:(cn:Int) > times
            · have t2:decide ((cn:Int) > times)=true:=by simpa using h1
              have HR:=Bx.mk (PickI.take HK.out hlt (.inl (by rw [←HCN.out];exact h1)) HC.out)
              clear h1
              go_wp2_with fail
              go_roundw
              case rel=>exact ⟨k+1,p k,cn,by omega,by go_num,rfl,rfl,⟨by have:=HR.out;rwa [←HCN.out] at this,HI.out.1,HI.out.2⟩⟩
              case measure=>simp [intOf];omega
            have t2:decide ((cn:Int) > times)=false:=by simpa using h1
            by_cases h2:(cn:Int)=times
            · have t3:((cn:Int) == times)=true:=by simpa using h2
              by_cases h3:p k<best
              · have t4:decide (p k<best)=true:=by simpa using h3
                have HR:=Bx.mk (PickI.take HK.out hlt (.inr ⟨by rw [←HCN.out];exact h2,h3⟩) HC.out)
                clear h1 h2 h3
                go_wp2_with fail
                go_roundw
                case rel=>exact ⟨k+1,p k,cn,by omega,by go_num,rfl,rfl,⟨by have:=HR.out;rwa [←HCN.out] at this,HI.out.1,HI.out.2⟩⟩
                case measure=>simp [intOf];omega
              · have t4:decide (p k<best)=false:=by simpa using h3
                have HR:=Bx.mk (PickI.keep HK.out hlt (by rw [←HCN.out];exact fun h=>h.elim h1 fun h=>h3 h.2) HC.out)
                clear h1 h2 h3
                go_wp2_with fail
                go_roundw
                case rel=>exact ⟨k+1,best,times,by omega,by go_num,rfl,rfl,⟨HR.out,HI.out.1,HI.out.2⟩⟩
                case measure=>simp [intOf];omega
            · have t3:((cn:Int) == times)=false:=by simpa using h2
              have HR:=Bx.mk (PickI.keep HK.out hlt (by rw [←HCN.out];exact fun h=>h.elim h1 fun h=>h2 h.1) HC.out)
              clear h1 h2
              go_wp2_with fail
              go_roundw
              case rel=>exact ⟨k+1,best,times,by omega,by go_num,rfl,rfl,⟨HR.out,HI.out.1,HI.out.2⟩⟩
              case measure=>simp [intOf];omega
       · have hn:(s (p k) == g4)=false:=by simpa using hc
         have HR:=Bx.mk (PickI.skip HJ2.out.1 hlt (by unfold Cand;rw [←HG.out];exact hc))
         clear hc
         go_wp2_with fail
         go_roundw
         case rel=>exact ⟨k+1,best,times,by omega,by go_num,rfl,rfl,⟨HR.out,HJ2.out.2.1,HJ2.out.2.2⟩⟩
         case measure=>simp [intOf];omega
     · obtain rfl:k=8:=by omega
       have t0:decide (((8:Nat):Int)<8)=false:=by decide
       have HR:=Bx.mk (PickI.done HJ.out.1)
       go_wp2_with fail
       go_ret
       exact ⟨by rw [HR.out];rfl,HJ.out.2.1⟩
end
section
open Go.RowKit Go.Sort Go.Maps
open Oct
theorem l8_at (p:Nat→Int) {k:Nat} (hk:k<8):(#[.int .i64 (p 0),.int .i64 (p 1),.int .i64 (p 2),.int .i64 (p 3),.int .i64 (p 4),.int .i64 (p 5),.int .i64 (p 6),.int .i64 (p 7)]:Array Value)[k]? = some (.int .i64 (p k)):=by
 have h0:k=0∨k=1∨k=2∨k=3∨k=4∨k=5∨k=6∨k=7:=by omega
 rcases h0 with rfl | rfl | rfl | rfl | rfl | rfl | rfl | rfl <;> rfl
theorem lv_at8 (b k:Nat) (hk:k<8) (W:World):(Instr.indexAt 54 (.pointer (some ⟨b,0,none⟩)) (.int .i64 (k:Int))).run Tryz.prog W = .ok (.pointer (some ⟨b,k,none⟩)) W:=by
 have hu : Tryz.prog.underlying 54=some (.array (Tryz.prog.arrayLen 54) (Tryz.prog.elem 54)):=by kernel_rfl
 have h1 : Tryz.prog.cellsOf (Tryz.prog.elem 54)=1:=by kernel_rfl
 have h2 : Tryz.prog.arrayLen 54=8:=by kernel_rfl
 have h0:(0:Int)≤(k:Int)∧(k:Int)<8:=by omega
 rw [run_indexAt_array _ _ _ _ _ hu,h2]
 simp [h0,Addr.add,go_sem]
 exact fun h=>h.symm
set_option maxRecDepth 100000 in
set_option maxHeartbeats 4000000 in
theorem lv_rpick (ta:Option Addr) (tc:Nat) (L:List Mat) (p:Nat→Int) (hp : ∀ k,k<8→0≤p k∧p k≤255) (hl:L.length≤1000000000) (w:World) (hT:SlM w ta L) :
 Calls Tryz.prog 25 #[.slice ta L.length tc,.agg #[.int .i64 (p 0),.int .i64 (p 1),.int .i64 (p 2),.int .i64 (p 3),.int .i64 (p 4),.int .i64 (p 5),.int .i64 (p 6),.int .i64 (p 7)]] w fun e w'=>e = .returned (.int .i64 (pickV (solT L) (l8 p)))∧Below w.heap.size w w':=by
 have HS:=Bx.mk fun W (hb:Below w.heap.size w W) c=>ref_solid ta tc L c hl W (hT.below hb)
 have HP:=Bx.mk hp
 generalize solT L=s at *
 generalize L.length=nl at *
 clear hT hl hp
 go_enter Tryz.func25,Tryz.ntmps25
 go_upto_region 1 with fail
 generalize hW:World.alloc w _=W
 have HB:=Bx.mk (show Below w.heap.size w W by rw [←hW];exact (Below.refl _ _).alloc (Nat.le_refl _) _)
 have KB:=Bx.mk (show Bk W w.heap.size #[.int .i64 (p 0),.int .i64 (p 1),.int .i64 (p 2),.int .i64 (p 3),.int .i64 (p 4),.int .i64 (p 5),.int .i64 (p 6),.int .i64 (p 7)] 54 by rw [←hW];exact blk_new _ _ _ rfl)
 clear hW
 go_wp2_with fail
 go_loopw [5,6] (fun v5 v6 wr => ∃ k:Nat,k≤8∧v6 = .int .i64 k∧v5 = .int .i64 (((l8 p).take k).countP s:Nat)∧Bx (Below w.heap.size w wr∧Bk wr w.heap.size #[.int .i64 (p 0),.int .i64 (p 1),.int .i64 (p 2),.int .i64 (p 3),.int .i64 (p 4),.int .i64 (p 5),.int .i64 (p 6),.int .i64 (p 7)] 54)) (fun _ i _=>8 - (intOf i).toNat)
 case atStart=>exact ⟨0,Nat.zero_le _,rfl,by simp,⟨HB.out,KB.out⟩⟩
 case round =>
  obtain ⟨k,hk,rfl,rfl,HI⟩:=hrel
  clear HB KB
  by_cases hlt:k<8
  · have t0:decide ((k:Int)<8)=true:=by simp;omega
    have hix:=lv_at8 w.heap.size k hlt
    have hcp:=l8_countP s p hlt
    have hle:=List.countP_le_length (p:=s) (l:=(l8 p).take k)
    rw [List.length_take,l8_len] at hle
    obtain ⟨c1,hc1⟩ : ∃ c1,((l8 p).take (k+1)).countP s=c1:=⟨_,rfl⟩
    have HCP:=Bx.mk hc1
    rw [hc1] at hcp
    clear hc1
    generalize ((l8 p).take k).countP s=c0 at *
    have hcell:=HI.out.2.cell k (l8_at p hlt)
    go_wp2_with fail
    refine (HS.out _ HI.out.1 (p k)).mono ?_
    rintro _ w2 ⟨rfl,hb⟩
    have HI2:=Bx.mk (show Below w.heap.size w w2∧Bk w2 w.heap.size #[.int .i64 (p 0),.int .i64 (p 1),.int .i64 (p 2),.int .i64 (p 3),.int .i64 (p 4),.int .i64 (p 5),.int .i64 (p 6),.int .i64 (p 7)] 54 from ⟨HI.out.1.trans (hb.mono HI.out.1.size),HI.out.2.later hb⟩)
    clear hb HI hcell
    cases hs:s (p k) with
    | true =>
      rw [if_pos hs] at hcp
      have hw:IntKind.i64.wrap ((c0:Int)+1)=(c1:Int):=by rw [show (c0:Int)+1=(c1:Int) by omega];exact IntWalk.i64_in _ (by omega)
      have HQ:=Bx.mk hcp
      clear hle hs hcp
      go_wp2_with fail
      go_roundw
      case rel=>exact ⟨k+1,by omega,by go_num,by rw [HCP.out];try exact congrArg _ (by have:=HQ.out;omega),HI2⟩
      case measure=>simp [intOf];omega
    | false =>
      rw [if_neg (by rw [hs];decide)] at hcp
      have HQ:=Bx.mk hcp
      clear hle hs hcp
      go_wp2_with fail
      go_roundw
      case rel=>exact ⟨k+1,by omega,by go_num,by rw [HCP.out];try exact congrArg _ (by have:=HQ.out;omega),HI2⟩
      case measure=>simp [intOf];omega
  · have hk8:((k:Nat):Int)=8:=by omega
    rw [hk8]
    obtain rfl:k=8:=by omega
    clear hk8
    have t0:decide ((8:Int)<8)=false:=by decide
    rw [l8_all]
    obtain ⟨g4,hg4⟩ : ∃ g,g=decide (4≤(l8 p).countP s):=⟨_,rfl⟩
    obtain ⟨tot,htot⟩ : ∃ t:Nat,t=(l8 p).countP s:=⟨_,rfl⟩
    rw [←htot]
    have hge:decide ((tot:Int) ≥ 4)=g4:=by rw [hg4,←htot,Bool.eq_iff_iff];simp;omega
    have HG:=Bx.mk hg4
    clear hg4 htot
    go_wp2_with fail
    go_loopw [8,9,10] (fun v8 v9 v10 wr => ∃ c:Nat,∃ best times:Int,c≤256∧v10 = .int .i64 c∧v8 = .int .i64 best∧v9 = .int .i64 times∧Bx (PickR s p c best times∧Below w.heap.size w wr∧Bk wr w.heap.size #[.int .i64 (p 0),.int .i64 (p 1),.int .i64 (p 2),.int .i64 (p 3),.int .i64 (p 4),.int .i64 (p 5),.int .i64 (p 6),.int .i64 (p 7)] 54)) (fun _ _ i _=>256 - (intOf i).toNat)
    case atStart=>exact ⟨0,-1,0,Nat.zero_le _,rfl,rfl,rfl,⟨PickR.start s p,HI.out.1,HI.out.2⟩⟩
    case round =>
     obtain ⟨c,best,times,hk,rfl,rfl,rfl,HJ⟩:=hrel
     clear HI t0
     by_cases hlt:c<256
     · have t0:decide ((c:Int)≤255)=true:=by simp;omega
       go_wp2_with fail
       go_loopw [11,12] (fun v11 v12 wr => ∃ j:Nat,j≤8∧v12 = .int .i64 j∧v11 = .int .i64 (((l8 p).take j).count (c:Int):Nat)∧Bx (Below w.heap.size w wr∧Bk wr w.heap.size #[.int .i64 (p 0),.int .i64 (p 1),.int .i64 (p 2),.int .i64 (p 3),.int .i64 (p 4),.int .i64 (p 5),.int .i64 (p 6),.int .i64 (p 7)] 54)) (fun _ i _=>8 - (intOf i).toNat)
       case atStart=>exact ⟨0,Nat.zero_le _,rfl,by simp,⟨HJ.out.2.1,HJ.out.2.2⟩⟩
       case round =>
        obtain ⟨j,hj,rfl,rfl,HI⟩:=hrel
        by_cases hjl:j<8
        · have t1:decide ((j:Int)<8)=true:=by simp;omega
          have hjx:=lv_at8 w.heap.size j hjl
          have hcp:=l8_count p (c:Int) hjl
          have hle:=List.count_le_length (a:=(c:Int)) (l:=(l8 p).take j)
          rw [List.length_take,l8_len] at hle
          obtain ⟨c1,hc1⟩ : ∃ c1,((l8 p).take (j+1)).count (c:Int)=c1:=⟨_,rfl⟩
          have HCP:=Bx.mk hc1
          rw [hc1] at hcp
          clear hc1
          generalize ((l8 p).take j).count (c:Int)=c0 at *
          have hcell:=HI.out.2.cell j (l8_at p hjl)
          cases he:(p j == (c:Int)) with
          | true =>
            rw [if_pos he] at hcp
            have hw:IntKind.i64.wrap ((c0:Int)+1)=(c1:Int):=by rw [show (c0:Int)+1=(c1:Int) by omega];exact IntWalk.i64_in _ (by omega)
            have HQ:=Bx.mk hcp
            clear hle hcp
            go_wp2_with fail
            go_roundw
            case rel=>exact ⟨j+1,by omega,by go_num,by rw [HCP.out];try exact congrArg _ (by have:=HQ.out;omega),HI⟩
            case measure=>simp [intOf];omega
          | false =>
            rw [if_neg (by rw [he];decide)] at hcp
            have HQ:=Bx.mk hcp
            clear hle hcp
            go_wp2_with fail
            go_roundw
            case rel=>exact ⟨j+1,by omega,by go_num,by rw [HCP.out];try exact congrArg _ (by have:=HQ.out;omega),HI⟩
            case measure=>simp [intOf];omega
        · have hj8:((j:Nat):Int)=8:=by omega
          rw [hj8]
          obtain rfl:j=8:=by omega
          clear hj8
          have t1:decide ((8:Int)<8)=false:=by decide
          rw [l8_all]
          have HK:=Bx.mk HJ.out.1
          clear HJ
          obtain ⟨cn,hcn⟩ : ∃ cn:Nat,cn=(l8 p).count (c:Int):=⟨_,rfl⟩
          rw [←hcn]
          have HCN:=Bx.mk hcn
          clear hcn
          go_wp2_with fail
          refine (HS.out _ HI.out.1 (c:Int)).mono ?_
          rintro _ w2 ⟨rfl,hb⟩
          have HI2:=Bx.mk (show Below w.heap.size w w2∧Bk w2 w.heap.size #[.int .i64 (p 0),.int .i64 (p 1),.int .i64 (p 2),.int .i64 (p 3),.int .i64 (p 4),.int .i64 (p 5),.int .i64 (p 6),.int .i64 (p 7)] 54 from ⟨HI.out.1.trans (hb.mono HI.out.1.size),HI.out.2.later hb⟩)
          clear hb HI
          by_cases h1:(cn:Int) > times
          · have t2:decide ((cn:Int) > times)=true:=by simpa using h1
            by_cases hc:s (c:Int)=g4
            · have t3:(s (c:Int) == g4)=true:=by rw [hc];simp
              have HR:=Bx.mk (PickR.take HK.out (by rw [←HCN.out];exact h1) (by unfold Cand;rw [hc,HG.out]))
              clear h1 hc
              go_wp2_with fail
              go_roundw
              case rel=>exact ⟨c+1,c,cn,by omega,by go_num,rfl,rfl,⟨by have:=HR.out;rwa [←HCN.out] at this,HI2.out.1,HI2.out.2⟩⟩
              case measure=>simp [intOf];omega
            · have t3:(s (c:Int) == g4)=false:=by simpa using hc
              have HR:=Bx.mk (PickR.keep HK.out (fun h=>hc (by have:=h.2;unfold Cand at this;rw [this,HG.out])))
              clear h1 hc
              go_wp2_with fail
              go_roundw
              case rel=>exact ⟨c+1,best,times,by omega,by go_num,rfl,rfl,⟨HR.out,HI2.out.1,HI2.out.2⟩⟩
              case measure=>simp [intOf];omega
          · have t2:decide ((cn:Int) > times)=false:=by simpa using h1
            have HR:=Bx.mk (PickR.keep HK.out (fun h=>h1 (by rw [HCN.out];exact h.1)))
            clear h1
            go_wp2_with fail
            go_roundw
            case rel=>exact ⟨c+1,best,times,by omega,by go_num,rfl,rfl,⟨HR.out,HI2.out.1,HI2.out.2⟩⟩
            case measure=>simp [intOf];omega
     · obtain rfl:c=256:=by omega
       have t0:decide (((256:Nat):Int)≤255)=false:=by decide
       have HR:=Bx.mk (PickR.done HJ.out.1 HP.out)
       go_wp2_with fail
       go_ret
       exact ⟨by rw [HR.out];rfl,HJ.out.2.1⟩
end
section
open Go.Sort Go.RowKit
section
variable {P:Program} {l:List Oper} {n:Nat} {R:Nat→Value→World→Prop} {W:World} {a:Act}
theorem ri_anyT (hn:n≤l.length) (B:RelB l n) (hb:backB .any l n=true) (ht:tailT .any l n=true) (hf : ∀ i,i<n→Firm (R i)) (hd : ∀ i d,i<n→dstAt l i=some d→d<a.tmps.size)
 (hop : ∀ i o,i<n→l[i]? = some o → ∀ (ρ:Operand→Value) w,Below W.heap.size W w→(∀ v,ρ (.const v)=v)→(∀ g,ρ (.global g) = .pointer (some ⟨g,0,none⟩))→(∀ f,ρ (.func f) = .func (.func f) #[] #[]) →
  (∀ d,.tmp d∈o.op.operands→Known l n R a d (ρ (.tmp d)) w)→relUpon P w (R i) ((execOp ρ o).run P w))
 {Q:Exit→Act→World→Prop} (hend : ∀ a' w',RI l n R W a (Array.replicate n true) a' w'→wpAny P .any l.toArray Q (l.length - n) (Array.replicate n true++Array.replicate (l.length - n) false) a' w') :
 ∀ (f:Nat) (s:Array Bool) (a':Act) (w':World),s.size=n→Shut .any l s→unl s=f→RI l n R W a s a' w'→wpAny P .any l.toArray Q (f+(l.length - n)) (s++Array.replicate (l.length - n) false) a' w'
 | 0, s, a', w', hs, _, hu, I => by
   have e:s=Array.replicate n true:=by rw [←hs];exact unl_zero hu
   rw [Nat.zero_add,e]
   rw [e] at I
   exact hend a' w' I
 | f + 1, s, a', w', hs, hsh, hu, I => by
   obtain ⟨k,hk,hun⟩:=unl_pos (s:=s) (by omega)
   rw [show f+1+(l.length - n)=(f+(l.length - n))+1 by omega]
   refine ⟨fun h0=>?_,fun i hi=>?_⟩
   · obtain ⟨i,hi⟩:=ready_some (g:=l.length - n) hs hn hb (k+1) k (by omega) (by omega) hun
     rw [h0] at hi;cases hi
   · have hin:=ready_not_tailT hs hsh (by omega:k<n) hun ht hi
     have hiu:s.getD i true=false:=by have:=(mem_ready.1 hi).1;rwa [app_get hs hin] at this
     refine wpOp_mono (fun a'' w'' I'=>?_) (ri_step B hf hd hop hs I hin hi hiu)
     rw [app_set (by omega)]
     refine ri_anyT hn B hb ht hf hd hop hend f _ a'' w'' (by simpa using hs) (shut_set hsh (ready_head hs hin hb hi) hin) ?_ I'
     have:=unl_set (s:=s) (by omega) hiu
     omega
def headRT (l:List Oper) (n:Nat):Bool :=
 decide (n<l.length) && backB .any l n && tailT .any l n && relB l n && Region.seqB .any l.toArray (l.length - n) n (Array.replicate n true++Array.replicate (l.length - n) false)
theorem any_relT {Q:Exit→Act→World→Prop} (n:Nat) (R:Nat→Value→World→Prop) (hB:headRT l n=true) (m:Nat) (hdm:dstB l m=true) (ham:a.tmps.size=m)
 (hf : ∀ i,i<n→Firm (R i))
 (hop : ∀ i o,i<n→l[i]? = some o → ∀ (ρ:Operand→Value) w,Below W.heap.size W w→(∀ v,ρ (.const v)=v)→(∀ g,ρ (.global g) = .pointer (some ⟨g,0,none⟩))→(∀ f,ρ (.func f) = .func (.func f) #[] #[]) →
  (∀ d,.tmp d∈o.op.operands→Known l n R a d (ρ (.tmp d)) w)→relUpon P w (R i) ((execOp ρ o).run P w))
 (h : ∀ (vs:List Value) w',vs.length=n→Below W.heap.size W w'→(∀ i v,vs[i]? = some v→R i v w')→wpList P l.toArray Q (l.drop n) (puts (((l.take n).map (·.dst)).zip vs) a) w'):wpAny P .any l.toArray Q l.toArray.size (Array.replicate l.toArray.size false) a { W with drawn:=W.drawn+1 }:=by
 simp only [headRT,Bool.and_eq_true,decide_eq_true_eq] at hB
 obtain ⟨⟨⟨⟨hn,hb⟩,ht⟩,hrel⟩,hseq⟩:=hB
 have B:=relB_spec hrel
 have hd : ∀ i d,i<n→dstAt l i=some d→d<a.tmps.size:=fun i d _ hd=>by rw [ham];exact dstB_spec hdm hd
 have:=ri_anyT (Q:=Q) (by omega) B hb ht hf hd hop (fun a' w' I=>?_) n (Array.replicate n false) a { W with drawn:=W.drawn+1 } (by simp) (fun m k h=>by
  simp only [Array.getD_eq_getD_getElem?,Array.getElem?_replicate] at h
  split at h <;> simp at h) (by simp [unl])
  ⟨rfl,rfl,fun x _=>rfl,fun i d _ hs=>(by rw [getD_replicate_false] at hs;cases hs),⟨rfl,rfl,rfl,Nat.le_refl _,fun _ _=>rfl⟩⟩
 · have e:Array.replicate n false++Array.replicate (l.length - n) false=Array.replicate l.toArray.size false:=by
    rw [Array.replicate_append_replicate];congr 1;simp;omega
   rw [e,show n+(l.length - n)=l.toArray.size by simp;omega] at this
   exact this
 · have hv : ∀ i,∃ v,i<n→(∃ d,dstAt l i=some d∧a'.tmps[d]? = some v)∧R i v w':=by
    intro i
    by_cases hi:i<n
    · obtain ⟨o,ho⟩ : ∃ o,l[i]? = some o:=⟨_,List.getElem?_eq_getElem (by omega)⟩
      obtain ⟨d,hdd⟩:=B.dst i o hi ho
      have hdl:dstAt l i=some d:=by simp [dstAt,ho,hdd]
      obtain ⟨v,h1,h2⟩:=I.head i d hi (by simp [hi]) hdl
      exact ⟨v,fun _=>⟨⟨d,hdl,h1⟩,h2⟩⟩
    · exact ⟨undef,fun h=>absurd h hi⟩
   obtain ⟨g,hg⟩:=Classical.axiomOfChoice hv
   have hlen:((List.range n).map g).length=n:=by simp
   have hz : ∀ i,i<n→(((l.take n).map (·.dst)).zip ((List.range n).map g))[i]? = some (dstAt l i,g i):=by
    intro i hi
    rw [(List.getElem?_zip_eq_some (z:=(dstAt l i,g i))).2]
    refine ⟨?_,by simp [hi]⟩
    rw [List.getElem?_map,List.getElem?_take,if_pos hi]
    unfold dstAt
    rw [List.getElem?_eq_getElem (show i<l.length by omega)];rfl
   have hlt : ∀ {i p},(((l.take n).map (·.dst)).zip ((List.range n).map g))[i]? = some p→i<n:=by
    intro i p hp
    have:=(List.getElem?_eq_some_iff.1 hp).1
    simp at this;omega
   have heq:a'=puts (((l.take n).map (·.dst)).zip ((List.range n).map g)) a:=by
    refine act_ext ?_ fun x=>?_
    · rw [(puts_size _ _).2];exact I.defers
    · by_cases hx : ∃ i,i<n∧dstAt l i=some x
      · obtain ⟨i,hi,hdx⟩:=hx
        obtain ⟨⟨d,h1,h2⟩,_⟩:=hg i hi
        rw [hdx] at h1
        obtain rfl:=Option.some.inj h1
        rw [h2]
        symm
        refine puts_in _ a x _ (hd i x hi hdx) ?_ (List.mem_iff_getElem?.2 ⟨i,by rw [hz i hi,hdx]⟩)
        rw [List.pairwise_iff_getElem]
        intro p q hp hq hpq d' e1 e2
        have n1:=hz p (hlt (List.getElem?_eq_getElem hp))
        have n2:=hz q (hlt (List.getElem?_eq_getElem hq))
        rw [List.getElem?_eq_getElem hp] at n1
        rw [List.getElem?_eq_getElem hq] at n2
        rw [Option.some.inj n1] at e1
        rw [Option.some.inj n2] at e2
        exact B.dist p q d' (hlt (List.getElem?_eq_getElem hp)) (hlt (List.getElem?_eq_getElem hq)) (by omega) e1 e2
      · rw [puts_out _ _ x (fun p hp e=>by
         obtain ⟨i,hi⟩:=List.mem_iff_getElem?.1 hp
         have hin:=hlt hi
         rw [hz i hin] at hi
         have:=Option.some.inj hi
         subst this
         exact hx ⟨i,hin,e⟩)]
        exact I.old x fun i hi _ e=>hx ⟨i,hi,e⟩
   have hres:=h ((List.range n).map g) w' hlen I.below (fun i v hi=>by
    have hin:i<n:=by have:=(List.getElem?_eq_some_iff.1 hi).1;simpa using this
    have:v=g i:=by simpa [hin] using hi.symm
    rw [this];exact (hg i hin).2)
   rw [←heq] at hres
   have:=wpAny_of_seq (P:=P) (md:=.any) (ops:=l.toArray) (Q':=Q) (l.drop n) n (Array.replicate n true++Array.replicate (l.length - n) false) a' w' (fun j=>by simp [List.getElem?_drop]) (by simpa using hseq) hres
   simpa using this
theorem wp_region_relT {id:Nat} {Q:Exit→Act→World→Prop} (n:Nat) (R:Nat→Value→World→Prop) (hm:P.follows .mixedOrders=true) (hB:headRT l n=true) (m:Nat) (hdm:dstB l m=true) (ham:a.tmps.size=m)
 (hf : ∀ i,i<n→Firm (R i))
 (hop : ∀ i o,i<n→l[i]? = some o → ∀ (ρ:Operand→Value) w,Below W.heap.size W w→(∀ v,ρ (.const v)=v)→(∀ g,ρ (.global g) = .pointer (some ⟨g,0,none⟩))→(∀ f,ρ (.func f) = .func (.func f) #[] #[]) →
  (∀ d,.tmp d∈o.op.operands→Known l n R a d (ρ (.tmp d)) w)→relUpon P w (R i) ((execOp ρ o).run P w))
 (h : ∀ (vs:List Value) w',vs.length=n→Below W.heap.size W w'→(∀ i v,vs[i]? = some v→R i v w')→wpList P l.toArray Q (l.drop n) (puts (((l.take n).map (·.dst)).zip vs) a) w'):(Code.region id l.toArray true).wp P Q a W :=
 wp_region_any hm (any_relT n R hB m hdm ham hf hop h)
end
end
end Go.Proofs.YtgnfgblkpnfcnaaGreatDoor
