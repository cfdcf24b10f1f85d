/- Lpr, RlT, RlX, Wrd, Blw: joined by program, for one claim. -/
import Derived.Test.YtgnfgblkpnfcnaaGreatDoorM28
import Derived.Deep.Quiet
import Derived.Lib.EndianBits
import Derived.Laws.Tables
set_option maxHeartbeats 4000000
set_option maxRecDepth 100000
set_option linter.unusedVariables false
set_option linter.unusedSimpArgs false
namespace Go.Proofs.YtgnfgblkpnfcnaaGreatDoor
section
open Go.RowKit Go.Sort Go.Maps
open Oct
theorem l8_at (p:Nat→Int) {k:Nat} (hk:k<8):(#[.int .i64 (p 0),.int .i64 (p 1),.int .i64 (p 2),.int .i64 (p 3),.int .i64 (p 4),.int .i64 (p 5),.int .i64 (p 6),.int .i64 (p 7)]:Array Value)[k]? = some (.int .i64 (p k)):=by
 have h0:k=0∨k=1∨k=2∨k=3∨k=4∨k=5∨k=6∨k=7:=by omega
 rcases h0 with rfl | rfl | rfl | rfl | rfl | rfl | rfl | rfl <;> rfl
theorem zGm (b k:Nat) (hk:k<8) (W:World):(Instr.indexAt 54 (.pointer (some ⟨b,0,none⟩)) (.int .i64 (k:Int))).run Tryz.prog W = .ok (.pointer (some ⟨b,k,none⟩)) W:=by
 have hu : Tryz.prog.underlying 54=some (.array (Tryz.prog.arrayLen 54) (Tryz.prog.elem 54)):=by kernel_rfl
 have h1 : Tryz.prog.cellsOf (Tryz.prog.elem 54)=1:=by kernel_rfl
 have h2 : Tryz.prog.arrayLen 54=8:=by kernel_rfl
 have h0:(0:Int)≤(k:Int)∧(k:Int)<8:=by omega
 rw [run_indexAt_array _ _ _ _ _ hu,h2];simp [h0,Addr.add,go_sem];exact fun h=>h.symm
theorem zHM (ta:Option Addr) (tc:Nat) (L:List Mat) (p:Nat→Int) (hp : ∀ k,k<8→0≤p k∧p k≤255) (hl:L.length≤1000000000) (w:World) (hT:SlM w ta L) :
 Calls Tryz.prog 25 #[.slice ta L.length tc,.agg #[.int .i64 (p 0),.int .i64 (p 1),.int .i64 (p 2),.int .i64 (p 3),.int .i64 (p 4),.int .i64 (p 5),.int .i64 (p 6),.int .i64 (p 7)]] w fun e w'=>e = .returned (.int .i64 (zJj (zx L) (l8 p)))∧Below w.heap.size w w':=by
 have HS:=Bx.mk fun W (hb:Below w.heap.size w W) c=>zK2 ta tc L c hl W (hT.below hb);have HP:=Bx.mk hp;generalize zx L=s at *;generalize L.length=nl at *;clear hT hl hp;go_enter Tryz.func25,Tryz.ntmps25;go_upto_region 1 with fail;generalize hW:World.alloc w _=W;have HB:=Bx.mk (show Below w.heap.size w W by rw [←hW];exact (Below.refl _ _).alloc (Nat.le_refl _) _)
 have KB:=Bx.mk (show Bk W w.heap.size #[.int .i64 (p 0),.int .i64 (p 1),.int .i64 (p 2),.int .i64 (p 3),.int .i64 (p 4),.int .i64 (p 5),.int .i64 (p 6),.int .i64 (p 7)] 54 by rw [←hW];exact zD _ _ _ rfl)
 clear hW;go_wp2_with fail
 go_loopw [5,6] (fun v5 v6 wr => ∃ k:Nat,k≤8∧v6 = .int .i64 k∧v5 = .int .i64 (((l8 p).take k).countP s:Nat)∧Bx (Below w.heap.size w wr∧Bk wr w.heap.size #[.int .i64 (p 0),.int .i64 (p 1),.int .i64 (p 2),.int .i64 (p 3),.int .i64 (p 4),.int .i64 (p 5),.int .i64 (p 6),.int .i64 (p 7)] 54)) (fun _ i _=>8 - (intOf i).toNat)
 case atStart=>exact ⟨0,Nat.zero_le _,rfl,by simp,⟨HB.out,KB.out⟩⟩
 case round =>
  obtain ⟨k,hk,rfl,rfl,HI⟩:=hrel;clear HB KB;by_cases hlt:k<8
  · have t0:decide ((k:Int)<8)=true:=by simp;omega
    have hix:=zGm w.heap.size k hlt;have hcp:=zGG s p hlt;have hle:=List.countP_le_length (p:=s) (l:=(l8 p).take k);rw [List.length_take,zGJ] at hle;obtain ⟨c1,hc1⟩ : ∃ c1,((l8 p).take (k+1)).countP s=c1:=⟨_,rfl⟩;have HCP:=Bx.mk hc1;rw [hc1] at hcp;clear hc1;generalize ((l8 p).take k).countP s=c0 at *;have hcell:=HI.out.2.cell k (l8_at p hlt);go_wp2_with fail;refine (HS.out _ HI.out.1 (p k)).mono ?_;rintro _ w2 ⟨rfl,hb⟩;have HI2:=Bx.mk (show Below w.heap.size w w2∧Bk w2 w.heap.size #[.int .i64 (p 0),.int .i64 (p 1),.int .i64 (p 2),.int .i64 (p 3),.int .i64 (p 4),.int .i64 (p 5),.int .i64 (p 6),.int .i64 (p 7)] 54 from ⟨HI.out.1.trans (hb.mono HI.out.1.size),HI.out.2.later hb⟩);clear hb HI hcell;cases hs:s (p k) with
    | true =>
      rw [if_pos hs] at hcp;have hw:IntKind.i64.wrap ((c0:Int)+1)=(c1:Int):=by rw [show (c0:Int)+1=(c1:Int) by omega];exact IntWalk.i64_in _ (by omega)
      have HQ:=Bx.mk hcp;clear hle hs hcp;go_wp2_with fail
      go_roundw
      case rel=>exact ⟨k+1,by omega,by go_num,by rw [HCP.out];try exact congrArg _ (by have:=HQ.out;omega),HI2⟩
      case measure=>simp [intOf];omega
    | false =>
      rw [if_neg (by rw [hs];decide)] at hcp
      have HQ:=Bx.mk hcp;clear hle hs hcp;go_wp2_with fail
      go_roundw
      case rel=>exact ⟨k+1,by omega,by go_num,by rw [HCP.out];try exact congrArg _ (by have:=HQ.out;omega),HI2⟩
      case measure=>simp [intOf];omega
  · have hk8:((k:Nat):Int)=8:=by omega
    rw [hk8];obtain rfl:k=8:=by omega
    clear hk8;have t0:decide ((8:Int)<8)=false:=by decide
    rw [zGE];obtain ⟨g4,hg4⟩ : ∃ g,g=decide (4≤(l8 p).countP s):=⟨_,rfl⟩;obtain ⟨tot,htot⟩ : ∃ t:Nat,t=(l8 p).countP s:=⟨_,rfl⟩;rw [←htot];have hge:decide ((tot:Int) ≥ 4)=g4:=by rw [hg4,←htot,Bool.eq_iff_iff];simp;omega
    have HG:=Bx.mk hg4;clear hg4 htot;go_wp2_with fail
    go_loopw [8,9,10] (fun v8 v9 v10 wr => ∃ c:Nat,∃ best times:Int,c≤256∧v10 = .int .i64 c∧v8 = .int .i64 best∧v9 = .int .i64 times∧Bx (PickR s p c best times∧Below w.heap.size w wr∧Bk wr w.heap.size #[.int .i64 (p 0),.int .i64 (p 1),.int .i64 (p 2),.int .i64 (p 3),.int .i64 (p 4),.int .i64 (p 5),.int .i64 (p 6),.int .i64 (p 7)] 54)) (fun _ _ i _=>256 - (intOf i).toNat)
    case atStart=>exact ⟨0,-1,0,Nat.zero_le _,rfl,rfl,rfl,⟨PickR.start s p,HI.out.1,HI.out.2⟩⟩
    case round =>
     obtain ⟨c,best,times,hk,rfl,rfl,rfl,HJ⟩:=hrel;clear HI t0;by_cases hlt:c<256
     · have t0:decide ((c:Int)≤255)=true:=by simp;omega
       go_wp2_with fail
       go_loopw [11,12] (fun v11 v12 wr => ∃ j:Nat,j≤8∧v12 = .int .i64 j∧v11 = .int .i64 (((l8 p).take j).count (c:Int):Nat)∧Bx (Below w.heap.size w wr∧Bk wr w.heap.size #[.int .i64 (p 0),.int .i64 (p 1),.int .i64 (p 2),.int .i64 (p 3),.int .i64 (p 4),.int .i64 (p 5),.int .i64 (p 6),.int .i64 (p 7)] 54)) (fun _ i _=>8 - (intOf i).toNat)
       case atStart=>exact ⟨0,Nat.zero_le _,rfl,by simp,⟨HJ.out.2.1,HJ.out.2.2⟩⟩
       case round =>
        obtain ⟨j,hj,rfl,rfl,HI⟩:=hrel;by_cases hjl:j<8
        · have t1:decide ((j:Int)<8)=true:=by simp;omega
          have hjx:=zGm w.heap.size j hjl;have hcp:=zGF p (c:Int) hjl;have hle:=List.count_le_length (a:=(c:Int)) (l:=(l8 p).take j);rw [List.length_take,zGJ] at hle;obtain ⟨c1,hc1⟩ : ∃ c1,((l8 p).take (j+1)).count (c:Int)=c1:=⟨_,rfl⟩;have HCP:=Bx.mk hc1;rw [hc1] at hcp;clear hc1;generalize ((l8 p).take j).count (c:Int)=c0 at *;have hcell:=HI.out.2.cell j (l8_at p hjl);cases he:(p j == (c:Int)) with
          | true =>
            rw [if_pos he] at hcp;have hw:IntKind.i64.wrap ((c0:Int)+1)=(c1:Int):=by rw [show (c0:Int)+1=(c1:Int) by omega];exact IntWalk.i64_in _ (by omega)
            have HQ:=Bx.mk hcp;clear hle hcp;go_wp2_with fail
            go_roundw
            case rel=>exact ⟨j+1,by omega,by go_num,by rw [HCP.out];try exact congrArg _ (by have:=HQ.out;omega),HI⟩
            case measure=>simp [intOf];omega
          | false =>
            rw [if_neg (by rw [he];decide)] at hcp
            have HQ:=Bx.mk hcp;clear hle hcp;go_wp2_with fail
            go_roundw
            case rel=>exact ⟨j+1,by omega,by go_num,by rw [HCP.out];try exact congrArg _ (by have:=HQ.out;omega),HI⟩
            case measure=>simp [intOf];omega
        · have hj8:((j:Nat):Int)=8:=by omega
          rw [hj8];obtain rfl:j=8:=by omega
          clear hj8;have t1:decide ((8:Int)<8)=false:=by decide
          rw [zGE];have HK:=Bx.mk HJ.out.1;clear HJ;obtain ⟨cn,hcn⟩ : ∃ cn:Nat,cn=(l8 p).count (c:Int):=⟨_,rfl⟩;rw [←hcn];have HCN:=Bx.mk hcn;clear hcn;go_wp2_with fail;refine (HS.out _ HI.out.1 (c:Int)).mono ?_;rintro _ w2 ⟨rfl,hb⟩;have HI2:=Bx.mk (show Below w.heap.size w w2∧Bk w2 w.heap.size #[.int .i64 (p 0),.int .i64 (p 1),.int .i64 (p 2),.int .i64 (p 3),.int .i64 (p 4),.int .i64 (p 5),.int .i64 (p 6),.int .i64 (p 7)] 54 from ⟨HI.out.1.trans (hb.mono HI.out.1.size),HI.out.2.later hb⟩);clear hb HI;by_cases h1:(cn:Int) > times
          · have t2:decide ((cn:Int) > times)=true:=by simpa using h1
            by_cases hc:s (c:Int)=g4
            · have t3:(s (c:Int) == g4)=true:=by rw [hc];simp
              have HR:=Bx.mk (PickR.take HK.out (by rw [←HCN.out];exact h1) (by unfold zAQ;rw [hc,HG.out]))
              clear h1 hc;go_wp2_with fail
              go_roundw
              case rel=>exact ⟨c+1,c,cn,by omega,by go_num,rfl,rfl,⟨by have:=HR.out;rwa [←HCN.out] at this,HI2.out.1,HI2.out.2⟩⟩
              case measure=>simp [intOf];omega
            · have t3:(s (c:Int) == g4)=false:=by simpa using hc
              have HR:=Bx.mk (PickR.keep HK.out (fun h=>hc (by have:=h.2;unfold zAQ at this;rw [this,HG.out])))
              clear h1 hc;go_wp2_with fail
              go_roundw
              case rel=>exact ⟨c+1,best,times,by omega,by go_num,rfl,rfl,⟨HR.out,HI2.out.1,HI2.out.2⟩⟩
              case measure=>simp [intOf];omega
          · have t2:decide ((cn:Int) > times)=false:=by simpa using h1
            have HR:=Bx.mk (PickR.keep HK.out (fun h=>h1 (by rw [HCN.out];exact h.1)))
            clear h1;go_wp2_with fail
            go_roundw
            case rel=>exact ⟨c+1,best,times,by omega,by go_num,rfl,rfl,⟨HR.out,HI2.out.1,HI2.out.2⟩⟩
            case measure=>simp [intOf];omega
     · obtain rfl:c=256:=by omega
       have t0:decide (((256:Nat):Int)≤255)=false:=by decide
       have HR:=Bx.mk (PickR.done HJ.out.1 HP.out);go_wp2_with fail;go_ret;exact ⟨by rw [HR.out];rfl,HJ.out.2.1⟩
end
section
open Go.Sort Go.RowKit
section
variable {P:Program} {l:List Oper} {n:Nat} {R:Nat→Value→World→Prop} {W:World} {a:Act}
theorem zLO (hn:n≤l.length) (B:RelB l n) (hb:zBV .any l n=true) (ht:zNA .any l n=true) (hf : ∀ i,i<n→zAR (R i)) (hd : ∀ i d,i<n→zM l i=some d→d<a.tmps.size)
 (hop : ∀ i o,i<n→l[i]? = some o → ∀ (ρ:Operand→Value) w,Below W.heap.size W w→(∀ v,ρ (.const v)=v)→(∀ g,ρ (.global g) = .pointer (some ⟨g,0,none⟩))→(∀ f,ρ (.func f) = .func (.func f) #[] #[]) →
  (∀ d,.tmp d∈o.op.operands→zAW l n R a d (ρ (.tmp d)) w)→zLD P w (R i) ((execOp ρ o).run P w))
 {Q:Exit→Act→World→Prop} (hend : ∀ a' w',RI l n R W a (Array.replicate n true) a' w'→wpAny P .any l.toArray Q (l.length - n) (Array.replicate n true++Array.replicate (l.length - n) false) a' w') :
 ∀ (f:Nat) (s:Array Bool) (a':Act) (w':World),s.size=n→zAa .any l s→unl s=f→RI l n R W a s a' w'→wpAny P .any l.toArray Q (f+(l.length - n)) (s++Array.replicate (l.length - n) false) a' w'
 | 0, s, a', w', hs, _, hu, I => by
   have e:s=Array.replicate n true:=by rw [←hs];exact zNp hu
   rw [Nat.zero_add,e];rw [e] at I;exact hend a' w' I
 | f + 1, s, a', w', hs, hsh, hu, I => by
   obtain ⟨k,hk,hun⟩:=zNn (s:=s) (by omega)
   rw [show f+1+(l.length - n)=(f+(l.length - n))+1 by omega]
   refine ⟨fun h0=>?_,fun i hi=>?_⟩
   · obtain ⟨i,hi⟩:=zKN (g:=l.length - n) hs hn hb (k+1) k (by omega) (by omega) hun
     rw [h0] at hi;cases hi
   · have hin:=zKL hs hsh (by omega:k<n) hun ht hi
     have hiu:s.getD i true=false:=by have:=(mem_ready.1 hi).1;rwa [zBJ hs hin] at this
     refine wpOp_mono (fun a'' w'' I'=>?_) (zLQ B hf hd hop hs I hin hi hiu);rw [zBK (by omega)]
     refine zLO hn B hb ht hf hd hop hend f _ a'' w'' (by simpa using hs) (zL7 hsh (zKJ hs hin hb hi) hin) ?_ I'
     have:=zNo (s:=s) (by omega) hiu
     omega
def zE6 (l:List Oper) (n:Nat):Bool :=
 decide (n<l.length) && zBV .any l n && zNA .any l n && zLB l n && Region.seqB .any l.toArray (l.length - n) n (Array.replicate n true++Array.replicate (l.length - n) false)
theorem zBH {Q:Exit→Act→World→Prop} (n:Nat) (R:Nat→Value→World→Prop) (hB:zE6 l n=true) (m:Nat) (hdm:zDk l m=true) (ham:a.tmps.size=m)
 (hf : ∀ i,i<n→zAR (R i))
 (hop : ∀ i o,i<n→l[i]? = some o → ∀ (ρ:Operand→Value) w,Below W.heap.size W w→(∀ v,ρ (.const v)=v)→(∀ g,ρ (.global g) = .pointer (some ⟨g,0,none⟩))→(∀ f,ρ (.func f) = .func (.func f) #[] #[]) →
  (∀ d,.tmp d∈o.op.operands→zAW l n R a d (ρ (.tmp d)) w)→zLD P w (R i) ((execOp ρ o).run P w))
 (h : ∀ (vs:List Value) w',vs.length=n→Below W.heap.size W w'→(∀ i v,vs[i]? = some v→R i v w')→wpList P l.toArray Q (l.drop n) (zKA (((l.take n).map (·.dst)).zip vs) a) w'):wpAny P .any l.toArray Q l.toArray.size (Array.replicate l.toArray.size false) a { W with drawn:=W.drawn+1 }:=by
 simp only [zE6,Bool.and_eq_true,decide_eq_true_eq] at hB;obtain ⟨⟨⟨⟨hn,hb⟩,ht⟩,hrel⟩,hseq⟩:=hB;have B:=zLC hrel;have hd : ∀ i d,i<n→zM l i=some d→d<a.tmps.size:=fun i d _ hd=>by rw [ham];exact zDl hdm hd
 have:=zLO (Q:=Q) (by omega) B hb ht hf hd hop (fun a' w' I=>?_) n (Array.replicate n false) a { W with drawn:=W.drawn+1 } (by simp) (fun m k h=>by
  simp only [Array.getD_eq_getD_getElem?,Array.getElem?_replicate] at h;split at h <;> simp at h) (by simp [unl])
  ⟨rfl,rfl,fun x _=>rfl,fun i d _ hs=>(by rw [getD_replicate_false] at hs;cases hs),⟨rfl,rfl,rfl,Nat.le_refl _,fun _ _=>rfl⟩⟩
 · have e:Array.replicate n false++Array.replicate (l.length - n) false=Array.replicate l.toArray.size false:=by
    rw [Array.replicate_append_replicate];congr 1;simp;omega
   rw [e,show n+(l.length - n)=l.toArray.size by simp;omega] at this
   exact this
 · have hv : ∀ i,∃ v,i<n→(∃ d,zM l i=some d∧a'.tmps[d]? = some v)∧R i v w':=by
    intro i;by_cases hi:i<n
    · obtain ⟨o,ho⟩ : ∃ o,l[i]? = some o:=⟨_,List.getElem?_eq_getElem (by omega)⟩
      obtain ⟨d,hdd⟩:=B.dst i o hi ho;have hdl:zM l i=some d:=by simp [zM,ho,hdd]
      obtain ⟨v,h1,h2⟩:=I.head i d hi (by simp [hi]) hdl
      exact ⟨v,fun _=>⟨⟨d,hdl,h1⟩,h2⟩⟩
    · exact ⟨undef,fun h=>absurd h hi⟩
   obtain ⟨g,hg⟩:=Classical.axiomOfChoice hv;have hlen:((List.range n).map g).length=n:=by simp
   have hz : ∀ i,i<n→(((l.take n).map (·.dst)).zip ((List.range n).map g))[i]? = some (zM l i,g i):=by
    intro i hi;rw [(List.getElem?_zip_eq_some (z:=(zM l i,g i))).2];refine ⟨?_,by simp [hi]⟩
    rw [List.getElem?_map,List.getElem?_take,if_pos hi];unfold zM;rw [List.getElem?_eq_getElem (show i<l.length by omega)];rfl
   have hlt : ∀ {i p},(((l.take n).map (·.dst)).zip ((List.range n).map g))[i]? = some p→i<n:=by
    intro i p hp;have:=(List.getElem?_eq_some_iff.1 hp).1;simp at this;omega
   have heq:a'=zKA (((l.take n).map (·.dst)).zip ((List.range n).map g)) a:=by
    refine zAi ?_ fun x=>?_
    · rw [(zKD _ _).2];exact I.defers
    · by_cases hx : ∃ i,i<n∧zM l i=some x
      · obtain ⟨i,hi,hdx⟩:=hx;obtain ⟨⟨d,h1,h2⟩,_⟩:=hg i hi;rw [hdx] at h1;obtain rfl:=Option.some.inj h1;rw [h2];symm;refine zKB _ a x _ (hd i x hi hdx) ?_ (List.mem_iff_getElem?.2 ⟨i,by rw [hz i hi,hdx]⟩)
        rw [List.pairwise_iff_getElem];intro p q hp hq hpq d' e1 e2;have n1:=hz p (hlt (List.getElem?_eq_getElem hp));have n2:=hz q (hlt (List.getElem?_eq_getElem hq));rw [List.getElem?_eq_getElem hp] at n1;rw [List.getElem?_eq_getElem hq] at n2;rw [Option.some.inj n1] at e1;rw [Option.some.inj n2] at e2;exact B.dist p q d' (hlt (List.getElem?_eq_getElem hp)) (hlt (List.getElem?_eq_getElem hq)) (by omega) e1 e2
      · rw [zKC _ _ x (fun p hp e=>by
         obtain ⟨i,hi⟩:=List.mem_iff_getElem?.1 hp;have hin:=hlt hi;rw [hz i hin] at hi;have:=Option.some.inj hi;subst this;exact hx ⟨i,hin,e⟩)]
        exact I.old x fun i hi _ e=>hx ⟨i,hi,e⟩
   have hres:=h ((List.range n).map g) w' hlen I.below (fun i v hi=>by
    have hin:i<n:=by have:=(List.getElem?_eq_some_iff.1 hi).1;simpa using this
    have:v=g i:=by simpa [hin] using hi.symm
    rw [this];exact (hg i hin).2)
   rw [←heq] at hres;have:=wpAny_of_seq (P:=P) (md:=.any) (ops:=l.toArray) (Q':=Q) (l.drop n) n (Array.replicate n true++Array.replicate (l.length - n) false) a' w' (fun j=>by simp [List.getElem?_drop]) (by simpa using hseq) hres
   simpa using this
theorem zOW {id:Nat} {Q:Exit→Act→World→Prop} (n:Nat) (R:Nat→Value→World→Prop) (hm:P.follows .mixedOrders=true) (hB:zE6 l n=true) (m:Nat) (hdm:zDk l m=true) (ham:a.tmps.size=m)
 (hf : ∀ i,i<n→zAR (R i))
 (hop : ∀ i o,i<n→l[i]? = some o → ∀ (ρ:Operand→Value) w,Below W.heap.size W w→(∀ v,ρ (.const v)=v)→(∀ g,ρ (.global g) = .pointer (some ⟨g,0,none⟩))→(∀ f,ρ (.func f) = .func (.func f) #[] #[]) →
  (∀ d,.tmp d∈o.op.operands→zAW l n R a d (ρ (.tmp d)) w)→zLD P w (R i) ((execOp ρ o).run P w))
 (h : ∀ (vs:List Value) w',vs.length=n→Below W.heap.size W w'→(∀ i v,vs[i]? = some v→R i v w')→wpList P l.toArray Q (l.drop n) (zKA (((l.take n).map (·.dst)).zip vs) a) w'):(Code.region id l.toArray true).wp P Q a W :=
 wp_region_any hm (zBH n R hB m hdm ham hf hop h)
end
def zNE (o:Oper):Bool:=match o.op with
 | .move _ | .assign _ | .extract .. => true
 | _=>false
theorem zIW {x:Event} : ¬x∈(#[]:Array Event):=by simp
section
variable {P:Program} {ops:Array Oper} {Q:Exit→Act→World→Prop} {a:Act} {w:World}
theorem zNI {o:Oper} (ht:zNE o=true) {K:Act→World→Prop} (h:o.wp P a w K Q∨(o.asks P a w∧LetsOut Q)):o.quiet P a (fun w'=>w'=w) (fun a'=>K a' w):=by
 unfold zNE at ht;unfold Oper.quiet Oper.quietAt Oper.wp Oper.asks at *;obtain ⟨op,dst,g,af⟩:=o;simp only at ht;split at ht
 · rcases h with h | ⟨h,-⟩
   · exact ⟨_,fun w' e=>by subst e;exact ⟨rfl,rfl⟩,h⟩
   · exact absurd h.1 zIW
 · rcases h with h | ⟨h,-⟩
   · exact ⟨_,fun w' e=>by subst e;exact ⟨rfl,rfl⟩,h⟩
   · exact absurd h.1 zIW
 · rename_i t ix;simp only [execOp] at h ⊢;generalize a.eval t=v at *;unfold Instr.extract at h;split at h
   · rename_i vs;split at h
     · rename_i x hx;rcases h with h | ⟨h,-⟩
       · refine ⟨x,fun w' e=>?_,h⟩;subst e;rw [show Instr.extract (Value.tuple vs) ix=pure x by unfold Instr.extract;simp only [hx]]
         exact ⟨rfl,rfl⟩
       · exact absurd h.1 zIW
     · rcases h with h | ⟨h,-⟩
       · exact h.elim
       · exact absurd h.1 zIW
   · rcases h with h | ⟨h,-⟩
     · exact h.elim
     · exact absurd h.1 zIW
 · cases ht
theorem zNH : ∀ (l:List Oper) (a:Act),l.all zNE=true→wpList P ops Q l a w→wpQuiet P ops (fun w'=>w'=w) (fun a'=>Q .normal a' w) l a
 | [],_,_,h=>h
 | o :: l, a, hl, h => by
   simp only [List.all_cons,Bool.and_eq_true] at hl;unfold wpList at h;unfold wpQuiet;split
   · rename_i hw;rw [if_pos hw] at h;exact Oper.quiet_mono (fun a' h'=>zNH l a' hl.2 h') (zNI hl.1 h)
   · rename_i hw;rw [if_neg hw] at h;exact zNH l _ hl.2 h
def zL1 (md:Region.Mode) (ops:Array Oper):Nat→List Oper→Nat→Array Bool→Bool
 | 0,l,k,listed=>l.all zNE && Region.noSelect ops && Region.lexFrom md ops l.length k listed
 | _+1,[],_,listed=>(Region.ready md ops listed).isEmpty
 | m+1,_::l,k,listed=>decide (Region.ready md ops listed=[k]) && zL1 md ops m l (k+1) (listed.setIfInBounds k true)
theorem zOH {md:Region.Mode} : ∀ (m:Nat) (l:List Oper) (k:Nat) (listed:Array Bool) (a:Act) (w:World),(∀ j,l[j]? = ops[k+j]?) →
 zL1 md ops m l k listed=true→wpList P ops Q l a w→wpAny P md ops Q l.length listed a w
 | 0, l, k, listed, a, w, hl, hB, h => by
   simp only [zL1,Bool.and_eq_true] at hB;exact wpAny_of_quiet (C:=fun w'=>w'=w) (Q:=fun a'=>Q .normal a' w) (fun a' w' e h'=>by subst e;exact h') _ _ _ _ rfl (wpAnyQ_lex hB.1.2 l k listed a hl hB.2 (zNH l a hB.1.1 h))
 | _+1,[],_,_,_,_,_,hB,h=>⟨by simpa [zL1] using hB,h⟩
 | m + 1, o :: l, k, listed, a, w, hl, hB, h => by
   have h0:ops[k]? = some o:=by simpa using (hl 0).symm
   simp only [zL1,Bool.and_eq_true,decide_eq_true_eq] at hB;refine ⟨fun h1=>(by rw [hB.1] at h1;cases h1),fun i hi=>?_⟩
   rw [hB.1] at hi;have hik:i=k:=by simpa using hi
   subst hik;have hw:wpOp P ops Q i (wpList P ops Q l) a w:=by unfold wpOp;simp only [h0];exact h
   exact wpOp_mono (fun a' w' h'=>zOH m l (i+1) _ a' w' (fun j=>by have:=hl (j+1);simpa [Nat.add_assoc,Nat.add_comm 1 j] using this) hB.2 h') hw
end
def zNB (l:List Oper) (n:Nat):Bool :=
 ((List.range n).all fun k=>Region.waitsFor .any l.toArray n k || (List.range n).any fun m=>decide (k<m) && Region.waitsFor .any l.toArray m k) && (List.range l.length).all fun t=>decide (t≤n) || (List.range t).any fun u=>decide (n≤u) && Region.waitsFor .any l.toArray t u
section
variable {l:List Oper} {n:Nat}
theorem zIY {s:Array Bool} (hs:s.size=n) {g:Nat} (hsh:zAa .any l s) (ht:zNB l n=true) (h:n∈Region.ready .any l.toArray (s++Array.replicate g false)) : ∀ (d k:Nat),n - k≤d→k<n→s.getD k false=false→False
 | 0,k,h1,h2,_=>by omega
 | d + 1, k, hd, hk, hun => by
   obtain ⟨h1,o,ho,h2⟩:=mem_ready.1 h;have ht':=ht;simp only [zNB,Bool.and_eq_true] at ht';have h3:=List.all_eq_true.1 ht'.1 k (List.mem_range.2 hk);simp only [Bool.or_eq_true] at h3;rcases h3 with h3 | h3
   · obtain ⟨o',ho',e,he,hbi,hon⟩:=Region.waitsFor_spec h3;obtain rfl:o'=o:=Option.some.inj (ho'.symm.trans ho);have:=h2 e he hbi;rw [hon,zBJ hs hk,hun] at this;cases this
   · obtain ⟨m,hm,h4⟩:=List.any_eq_true.1 h3;simp only [Bool.and_eq_true,decide_eq_true_eq] at h4;have hmn:=List.mem_range.1 hm;refine zIY hs hsh ht h d m (by omega) hmn ?_
     cases hx:s.getD m false with
     | false=>rfl
     | true=>have:=hsh m k hx h4.2;rw [hun] at this;cases this
theorem zKM {s:Array Bool} (hs:s.size=n) (hsh:zAa .any l s) {g i k:Nat} (hk:k<n) (hun:s.getD k false=false) (ht:zNB l n=true) (h:i∈Region.ready .any l.toArray (s++Array.replicate g false)):i<n:=by
 obtain ⟨h1,o,ho,h2⟩:=mem_ready.1 h;rcases Nat.lt_or_ge i n with hlt | hge
 · exact hlt
 · exfalso;have hil:i<l.length:=by have:=(Array.getElem?_eq_some_iff.1 ho).1;simpa using this
   by_cases hin:i=n
   · subst hin;exact zIY hs hsh ht h (i - k) k (Nat.le_refl _) hk hun
   · have ht':=ht;simp only [zNB,Bool.and_eq_true] at ht';have h3:=List.all_eq_true.1 ht'.2 i (List.mem_range.2 hil);simp only [Bool.or_eq_true,decide_eq_true_eq] at h3;rcases h3 with h3 | h3
     · omega
     · obtain ⟨u,hu,h4⟩:=List.any_eq_true.1 h3;simp only [Bool.and_eq_true,decide_eq_true_eq] at h4;obtain ⟨o',ho',e,he,hbi,hon⟩:=Region.waitsFor_spec h4.2;obtain rfl:o'=o:=Option.some.inj (ho'.symm.trans ho);have:=h2 e he hbi;rw [hon,zBL hs (by omega)] at this
       cases this
end
section
variable {P:Program} {l:List Oper} {n:Nat} {R:Nat→Value→World→Prop} {W:World} {a:Act}
theorem zLP (hn:n≤l.length) (B:RelB l n) (hb:zBV .any l n=true) (ht:zNB l n=true) (hf : ∀ i,i<n→zAR (R i)) (hd : ∀ i d,i<n→zM l i=some d→d<a.tmps.size)
 (hop : ∀ i o,i<n→l[i]? = some o → ∀ (ρ:Operand→Value) w,Below W.heap.size W w→(∀ v,ρ (.const v)=v)→(∀ g,ρ (.global g) = .pointer (some ⟨g,0,none⟩))→(∀ f,ρ (.func f) = .func (.func f) #[] #[]) →
  (∀ d,.tmp d∈o.op.operands→zAW l n R a d (ρ (.tmp d)) w)→zLD P w (R i) ((execOp ρ o).run P w))
 {Q:Exit→Act→World→Prop} (hend : ∀ a' w',RI l n R W a (Array.replicate n true) a' w'→wpAny P .any l.toArray Q (l.length - n) (Array.replicate n true++Array.replicate (l.length - n) false) a' w') :
 ∀ (f:Nat) (s:Array Bool) (a':Act) (w':World),s.size=n→zAa .any l s→unl s=f→RI l n R W a s a' w'→wpAny P .any l.toArray Q (f+(l.length - n)) (s++Array.replicate (l.length - n) false) a' w'
 | 0, s, a', w', hs, _, hu, I => by
   have e:s=Array.replicate n true:=by rw [←hs];exact zNp hu
   rw [Nat.zero_add,e];rw [e] at I;exact hend a' w' I
 | f + 1, s, a', w', hs, hsh, hu, I => by
   obtain ⟨k,hk,hun⟩:=zNn (s:=s) (by omega)
   rw [show f+1+(l.length - n)=(f+(l.length - n))+1 by omega]
   refine ⟨fun h0=>?_,fun i hi=>?_⟩
   · obtain ⟨i,hi⟩:=zKN (g:=l.length - n) hs hn hb (k+1) k (by omega) (by omega) hun
     rw [h0] at hi;cases hi
   · have hin:=zKM hs hsh (by omega:k<n) hun ht hi
     have hiu:s.getD i true=false:=by have:=(mem_ready.1 hi).1;rwa [zBJ hs hin] at this
     refine wpOp_mono (fun a'' w'' I'=>?_) (zLQ B hf hd hop hs I hin hi hiu);rw [zBK (by omega)]
     refine zLP hn B hb ht hf hd hop hend f _ a'' w'' (by simpa using hs) (zL7 hsh (zKJ hs hin hb hi) hin) ?_ I'
     have:=zNo (s:=s) (by omega) hiu
     omega
def zE7 (l:List Oper) (n m:Nat):Bool :=
 decide (n<l.length) && zBV .any l n && zNB l n && zLB l n && zL1 .any l.toArray m (l.drop n) n (Array.replicate n true++Array.replicate (l.length - n) false)
theorem zBI {Q:Exit→Act→World→Prop} (n m:Nat) (R:Nat→Value→World→Prop) (hB:zE7 l n m=true) (mt:Nat) (hdm:zDk l mt=true) (ham:a.tmps.size=mt)
 (hf : ∀ i,i<n→zAR (R i))
 (hop : ∀ i o,i<n→l[i]? = some o → ∀ (ρ:Operand→Value) w,Below W.heap.size W w→(∀ v,ρ (.const v)=v)→(∀ g,ρ (.global g) = .pointer (some ⟨g,0,none⟩))→(∀ f,ρ (.func f) = .func (.func f) #[] #[]) →
  (∀ d,.tmp d∈o.op.operands→zAW l n R a d (ρ (.tmp d)) w)→zLD P w (R i) ((execOp ρ o).run P w))
 (h : ∀ (vs:List Value) w',vs.length=n→Below W.heap.size W w'→(∀ i v,vs[i]? = some v→R i v w')→wpList P l.toArray Q (l.drop n) (zKA (((l.take n).map (·.dst)).zip vs) a) w'):wpAny P .any l.toArray Q l.toArray.size (Array.replicate l.toArray.size false) a { W with drawn:=W.drawn+1 }:=by
 simp only [zE7,Bool.and_eq_true,decide_eq_true_eq] at hB;obtain ⟨⟨⟨⟨hn,hb⟩,ht⟩,hrel⟩,hseq⟩:=hB;have B:=zLC hrel;have hd : ∀ i d,i<n→zM l i=some d→d<a.tmps.size:=fun i d _ hd=>by rw [ham];exact zDl hdm hd
 have:=zLP (Q:=Q) (by omega) B hb ht hf hd hop (fun a' w' I=>?_) n (Array.replicate n false) a { W with drawn:=W.drawn+1 } (by simp) (fun m k h=>by
  simp only [Array.getD_eq_getD_getElem?,Array.getElem?_replicate] at h;split at h <;> simp at h) (by simp [unl])
  ⟨rfl,rfl,fun x _=>rfl,fun i d _ hs=>(by rw [getD_replicate_false] at hs;cases hs),⟨rfl,rfl,rfl,Nat.le_refl _,fun _ _=>rfl⟩⟩
 · have e:Array.replicate n false++Array.replicate (l.length - n) false=Array.replicate l.toArray.size false:=by
    rw [Array.replicate_append_replicate];congr 1;simp;omega
   rw [e,show n+(l.length - n)=l.toArray.size by simp;omega] at this
   exact this
 · have hv : ∀ i,∃ v,i<n→(∃ d,zM l i=some d∧a'.tmps[d]? = some v)∧R i v w':=by
    intro i;by_cases hi:i<n
    · obtain ⟨o,ho⟩ : ∃ o,l[i]? = some o:=⟨_,List.getElem?_eq_getElem (by omega)⟩
      obtain ⟨d,hdd⟩:=B.dst i o hi ho;have hdl:zM l i=some d:=by simp [zM,ho,hdd]
      obtain ⟨v,h1,h2⟩:=I.head i d hi (by simp [hi]) hdl
      exact ⟨v,fun _=>⟨⟨d,hdl,h1⟩,h2⟩⟩
    · exact ⟨undef,fun h=>absurd h hi⟩
   obtain ⟨g,hg⟩:=Classical.axiomOfChoice hv;have hlen:((List.range n).map g).length=n:=by simp
   have hz : ∀ i,i<n→(((l.take n).map (·.dst)).zip ((List.range n).map g))[i]? = some (zM l i,g i):=by
    intro i hi;rw [(List.getElem?_zip_eq_some (z:=(zM l i,g i))).2];refine ⟨?_,by simp [hi]⟩
    rw [List.getElem?_map,List.getElem?_take,if_pos hi];unfold zM;rw [List.getElem?_eq_getElem (show i<l.length by omega)];rfl
   have hlt : ∀ {i p},(((l.take n).map (·.dst)).zip ((List.range n).map g))[i]? = some p→i<n:=by
    intro i p hp;have:=(List.getElem?_eq_some_iff.1 hp).1;simp at this;omega
   have heq:a'=zKA (((l.take n).map (·.dst)).zip ((List.range n).map g)) a:=by
    refine zAi ?_ fun x=>?_
    · rw [(zKD _ _).2];exact I.defers
    · by_cases hx : ∃ i,i<n∧zM l i=some x
      · obtain ⟨i,hi,hdx⟩:=hx;obtain ⟨⟨d,h1,h2⟩,_⟩:=hg i hi;rw [hdx] at h1;obtain rfl:=Option.some.inj h1;rw [h2];symm;refine zKB _ a x _ (hd i x hi hdx) ?_ (List.mem_iff_getElem?.2 ⟨i,by rw [hz i hi,hdx]⟩)
        rw [List.pairwise_iff_getElem];intro p q hp hq hpq d' e1 e2;have n1:=hz p (hlt (List.getElem?_eq_getElem hp));have n2:=hz q (hlt (List.getElem?_eq_getElem hq));rw [List.getElem?_eq_getElem hp] at n1;rw [List.getElem?_eq_getElem hq] at n2;rw [Option.some.inj n1] at e1;rw [Option.some.inj n2] at e2;exact B.dist p q d' (hlt (List.getElem?_eq_getElem hp)) (hlt (List.getElem?_eq_getElem hq)) (by omega) e1 e2
      · rw [zKC _ _ x (fun p hp e=>by
         obtain ⟨i,hi⟩:=List.mem_iff_getElem?.1 hp;have hin:=hlt hi;rw [hz i hin] at hi;have:=Option.some.inj hi;subst this;exact hx ⟨i,hin,e⟩)]
        exact I.old x fun i hi _ e=>hx ⟨i,hi,e⟩
   have hres:=h ((List.range n).map g) w' hlen I.below (fun i v hi=>by
    have hin:i<n:=by have:=(List.getElem?_eq_some_iff.1 hi).1;simpa using this
    have:v=g i:=by simpa [hin] using hi.symm
    rw [this];exact (hg i hin).2)
   rw [←heq] at hres;have:=zOH (P:=P) (md:=.any) (ops:=l.toArray) (Q:=Q) m (l.drop n) n (Array.replicate n true++Array.replicate (l.length - n) false) a' w' (fun j=>by simp [List.getElem?_drop]) hseq hres
   simpa using this
theorem zAN {id:Nat} {Q:Exit→Act→World→Prop} (n m:Nat) (R:Nat→Value→World→Prop) (hm:P.follows .mixedOrders=true) (hB:zE7 l n m=true) (mt:Nat) (hdm:zDk l mt=true) (ham:a.tmps.size=mt)
 (hf : ∀ i,i<n→zAR (R i))
 (hop : ∀ i o,i<n→l[i]? = some o → ∀ (ρ:Operand→Value) w,Below W.heap.size W w→(∀ v,ρ (.const v)=v)→(∀ g,ρ (.global g) = .pointer (some ⟨g,0,none⟩))→(∀ f,ρ (.func f) = .func (.func f) #[] #[]) →
  (∀ d,.tmp d∈o.op.operands→zAW l n R a d (ρ (.tmp d)) w)→zLD P w (R i) ((execOp ρ o).run P w))
 (h : ∀ (vs:List Value) w',vs.length=n→Below W.heap.size W w'→(∀ i v,vs[i]? = some v→R i v w')→wpList P l.toArray Q (l.drop n) (zKA (((l.take n).map (·.dst)).zip vs) a) w'):(Code.region id l.toArray true).wp P Q a W :=
 wp_region_any hm (zBI n m R hB mt hdm ham hf hop h)
end
end
section
open Go.RowKit
def rot (x:Int) (n:Nat):Int:=bits .or .u32 (x / 2 ^ n) (x * 2 ^ (32 - n) % 4294967296)
theorem zBc (k:IntKind) (x y:Int):bits .or k x y=bits .or k y x:=by
 unfold bits;simp only [BitVec.or_comm]
theorem zLT (x:Int) (n:Nat) (hn:0<n∧n<32) (w:World) :
 Calls Tryz.prog 174 #[.int .u32 x,(n:Int)] w fun e w'=>e = .returned (.int .u32 (rot x n))∧Below w.heap.size w w':=by
 have h1:((n:Int)).toNat=n:=by omega
 have h2:(32 - (n:Int)).toNat=32 - n:=by omega
 go_enter Tryz.func174,Tryz.ntmps174;go_wp2_with fail;refine wp_region_quiet_below (by kernel_rfl) (by kernel_rfl) ?_
 repeat (first | go_big_quiet_step (fail) | quiet_step (fail))
 refine wpQuiet_nil ?_;rintro _ ⟨⟨dq,osq⟩,rfl⟩;go_wp2_with fail;go_ret;exact ⟨rfl,below_regrown w dq osq⟩
theorem zLS (x:Int) (n:Nat) (hn:0<n∧n<32) (w:World) :
 Calls Tryz.prog 183 #[.int .u32 x,.int .i64 (-(n:Int))] w fun e w'=>e = .returned (.int .u32 (rot x n))∧w=w':=by
 have hw:bits .and .u64 (IntKind.u64.wrap (-(n:Int))) 31=32 - (n:Int):=by
  have h1:IntKind.u64.wrap (-(n:Int))=18446744073709551616 - n:=by rw [IntKind.wrap_u64];omega
  rw [h1,show (31:Int)=2 ^ 5 - 1 by decide,bits_mask .u64 64 (by decide) wraps_u64 5 (by decide) _ (by omega) (by have:(2:Int) ^ 64=18446744073709551616:=(by decide);omega)]
  have:(2:Int) ^ 5=32:=by decide
  omega
 have h1:(0:Int)≤32 - (n:Int):=by omega
 have h2:(32 - (n:Int)).toNat=32 - n:=by omega
 have h3:IntKind.u64.wrap (32 - (32 - (n:Int)))=n:=by rw [IntKind.wrap_u64];omega
 go_enter Tryz.func183,Tryz.ntmps183;go_wp2_with fail;go_ret;refine ⟨?_,rfl⟩
 show Ending.returned (.int .u32 (bits .or .u32 (x * 2 ^ (32 - n) % 4294967296) (x / 2 ^ n)))=_
 rw [zBc];rfl
def zHx (x:Int) (i j k:Nat):Int:=bits .xor .u32 (bits .xor .u32 (rot x i) (rot x j)) (rot x k)
theorem zH2 (x:Int) (i j k:Nat) (hi:0<i∧i<32) (hj:0<j∧j<32) (hk:0<k∧k<32) (w:World) :
 Calls Tryz.prog 179 #[.int .u32 x,(i:Int),(j:Int),(k:Int)] w fun e w'=>e = .returned (.int .u32 (zHx x i j k))∧w=w':=by
 have g1:=Bx.mk fun W=>zLS x i hi W;have g2:=Bx.mk fun W=>zLS x j hj W;have g3:=Bx.mk fun W=>zLS x k hk W;have n1:IntKind.i64.wrap (-(i:Int)) = -(i:Int):=IntWalk.i64_in _ (by omega)
 have n2:IntKind.i64.wrap (-(j:Int)) = -(j:Int):=IntWalk.i64_in _ (by omega)
 have n3:IntKind.i64.wrap (-(k:Int)) = -(k:Int):=IntWalk.i64_in _ (by omega)
 unfold zHx;generalize rot x i=a at *;generalize rot x j=b at *;generalize rot x k=c at *;go_enter Tryz.func179,Tryz.ntmps179;go_wp2_with fail;refine (g1.out _).mono ?_;rintro _ _ ⟨rfl,rfl⟩;go_wp2_with fail;refine (g2.out _).mono ?_;rintro _ _ ⟨rfl,rfl⟩;go_wp2_with fail;refine (g3.out _).mono ?_;rintro _ _ ⟨rfl,rfl⟩;go_wp2_with fail;go_ret;exact ⟨rfl,rfl⟩
def Bl (w:World) (b:Nat) (k:IntKind) (xs:List Int) (t:TypeId):Prop:=Bk w b (xs.map (Value.int k)).toArray t
def zBP (k:IntKind) (xs:List Int):Value:=.agg (xs.map (Value.int k)).toArray
section
variable {w w':World} {b:Nat} {k:IntKind} {xs:List Int} {t:TypeId}
theorem Bl.lt (h:Bl w b k xs t):b<w.heap.size:=Bk.lt h
theorem Bl.cell (h:Bl w b k xs t) {i:Nat} {x:Int} (hx:xs[i]? = some x):w.cell? ⟨b,i,none⟩=some (.int k x):=by
 refine Bk.cell h i ?_;rw [List.getElem?_toArray,List.getElem?_map,hx];rfl
theorem Bl.frozen (h:Bl w b k xs t) (i:Nat):w.frozen? ⟨b,i,none⟩=false:=Bk.frozen h i
theorem Bl.later (h:Bl w b k xs t) (hb:Below w.heap.size w w'):Bl w' b k xs t:=Bk.later h hb
theorem Bl.alloc (h:Bl w b k xs t) (o:Obj):Bl (w.alloc o) b k xs t:=Bk.alloc h o
theorem Bl.put (h:Bl w b k xs t) (i:Nat) (v:Int):Bl (w.setCell ⟨b,i,none⟩ (.int k v)) b k (xs.set i v) t:=by
 have:=Bk.set h i (.int k v);unfold Bl;rw [List.map_set];rwa [List.setIfInBounds_toArray] at this
theorem Bl.other (h:Bl w b k xs t) (a:Addr) (v:Value) (hne:b ≠ a.block):Bl (w.setCell a v) b k xs t:=Bk.other h a v hne
theorem Bl.whole (h:Bl w b k xs t) (ys:List Int):Bl (w.setRow b (ys.map (Value.int k)).toArray) b k ys t:=setRow_heap w b _ _ t (0,0) h
theorem Bl.apart (h:Bl w b k xs t) {g:Nat} (cs:Array Value) (hne:b ≠ g):Bl (w.setRow g cs) b k xs t:=by
 unfold Bl Bk at *;rw [setRow_other w g b cs hne];exact h
end
theorem zAI {P:Program} {ops:Array Oper} {rest:List Oper} {op:Oper} {a:Act} {w:World} {Q:Exit→Act→World→Prop} (hgd:op.guard=none) (ty:TypeId) (x:Operand) (ho:op.op = .load ty x)
 (g:Nat) (hx:a.eval x = .pointer (some ⟨g,0,none⟩)) (cs:Array Value) (t:TypeId) (hg:w.heap[g]? = some (.cells cs t (0,0))) (d:TypeDesc)
 (hu:P.underlying ty=some d) (hd:(match d with | .struct _ | .array _ _=>true | _=>false)=true) (hi:(P.info? ty).map (·.size)=some cs.size)
 (h:wpList P ops Q rest (a.put op.dst (.agg cs)) w):wpList P ops Q (op::rest) a w:=by
 refine wpList_plain hgd fun K hK=>?_;unfold Oper.wp execOp;simp only [ho,hx,Instr.loadAt,Instr.sureAddr,Sem.run_bind,Sem.run_pure,Result.andThen_ok,run_loadVar_row w g t ty cs (0,0) d hg hu hd hi];exact hK _ _ h
theorem zAJ {P:Program} {ops:Array Oper} {rest:List Oper} {op:Oper} {a:Act} {w:World} {Q:Exit→Act→World→Prop} (hgd:op.guard=none) (ty:TypeId) (x y:Operand) (ho:op.op = .store ty x y)
 (g:Nat) (hx:a.eval x = .pointer (some ⟨g,0,none⟩)) (cs cs':Array Value) (hy:a.eval y = .agg cs') (t:TypeId) (hg:w.heap[g]? = some (.cells cs t (0,0)))
 (hi:(P.info? ty).map (·.size)=some cs'.size) (hs:cs.size=cs'.size) (h1:cs'.all (·.oneCell')=true)
 (h:wpList P ops Q rest (a.put op.dst undef) (w.setRow g cs')):wpList P ops Q (op::rest) a w:=by
 refine wpList_plain hgd fun K hK=>?_;unfold Oper.wp execOp;have hr:=run_storeVar_row (P:=P) w g t ty cs cs' hg hi hs h1;simp only [ho,hx,hy,Instr.storeAt,Instr.sureAddr,Sem.run_bind,Sem.run_pure,Result.andThen_ok,hr];exact hK _ _ h
theorem zl (k:IntKind) (xs:List Int):(xs.map (Value.int k)).toArray.all (·.oneCell')=true:=by
 rw [Array.all_eq_true_iff_forall_mem];intro v hv;simp only [List.mem_toArray,List.mem_map] at hv;obtain ⟨x,_,rfl⟩:=hv;rfl
end
end Go.Proofs.YtgnfgblkpnfcnaaGreatDoor
