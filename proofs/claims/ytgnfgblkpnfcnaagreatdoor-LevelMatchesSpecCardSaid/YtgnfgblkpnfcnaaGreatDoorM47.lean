/- ERPack, EPPack, ECod: joined by program, for one claim. -/
import Derived.Test.YtgnfgblkpnfcnaaGreatDoorM46
set_option maxHeartbeats 1000000
set_option linter.unusedVariables false
set_option linter.unusedSimpArgs false
section
namespace Go.Proofs.YtgnfgblkpnfcnaaGreatDoor.PalE
set_option maxRecDepth 100000
open Go.RowKit
theorem zLM {s s':ByteArray} {a b:Int} (h1:s=s') (h2:a=b):Ending.returned (.tuple #[.string s,a])=Ending.returned (.tuple #[.string s',b]):=by rw [h1,h2]
theorem zBe {wd k t:Nat} (h:Pal.Wd wd) (ht:t=k * wd):t % 8+wd≤8∧(t % 8=0→(k * wd+7) / 8=t / 8)∧(t % 8 ≠ 0→(k * wd+7) / 8=t / 8+1)∧((k+1) * wd+7) / 8=t / 8+1:=by
 rcases h with rfl | rfl | rfl | rfl <;> omega
theorem zKu (a:Option Addr) (cap:Nat) (xs:List Int) (w:World) (hl:xs.length≤1000) (h:Sl w .i64 a xs) :
 Calls Tryz.prog 109 #[.slice a xs.length cap] w fun e w'=>e = .returned (.tuple #[.string (strOfNums (Pal.packB xs)),.int .i64 (Pal.packE xs)])∧Below w.heap.size w w':=by
 cases hall:xs.all Pal.cell with
 | false =>
   have hbad:Pal.bad xs=true:=by simp [Pal.bad,hall]
   have h1:=Bx.mk (Pal.packB_bad hbad);have h2:=Bx.mk (Pal.packE_bad hbad);have hcall:=Bx.mk ((zKc a cap xs w (by omega) h).mono (R':=fun e w'=>e = .returned (.bool false)∧w=w') (by rw [hall];exact fun _ _ h=>h))
   clear hall hbad;generalize xs.length=n at *;go_enter Tryz.func109,Tryz.ntmps109;go_wp2_with (go_at_call 144;refine (hcall.out).mono ?_;rintro e w' ⟨rfl,rfl⟩)
   go_ret2
   exact ⟨zLM (by rw [h1.out];rfl) h2.out.symm,Below.refl _ _⟩
 | true =>
   by_cases h64:64<xs.length
   · have hbad:Pal.bad xs=true:=by simp [Pal.bad,h64]
     have h1:=Bx.mk (Pal.packB_bad hbad);have h2:=Bx.mk (Pal.packE_bad hbad);have hcall:=Bx.mk ((zKc a cap xs w (by omega) h).mono (R':=fun e w'=>e = .returned (.bool true)∧w=w') (by rw [hall];exact fun _ _ h=>h))
     clear hall hbad;generalize xs.length=n at *;go_enter Tryz.func109,Tryz.ntmps109;go_wp2_with (go_at_call 144;refine (hcall.out).mono ?_;rintro e w' ⟨rfl,rfl⟩)
     go_ret2
     exact ⟨zLM (by rw [h1.out];rfl) h2.out.symm,Below.refl _ _⟩
   · have hbad:Pal.bad xs=false:=by simp [Pal.bad,hall];omega
     have h2:=Bx.mk (Pal.packE_good hbad);have hcall:=Bx.mk ((zKc a cap xs w (by omega) h).mono (R':=fun e w'=>e = .returned (.bool true)∧w=w') (by rw [hall];exact fun _ _ h=>h))
     have Hall:=Bx.mk hall;clear hall;by_cases h0:xs.length=0
     · have h1:=Bx.mk (Pal.packB_nil hbad h0);clear hbad h;have hb:((xs.length:Int) == 0)=true:=by simp [h0]
       generalize xs.length=n at *;clear h0
       have hcv:=fun w:World=>zK (P:=Tryz.prog) (w:=w.alloc (.cells #[.int .u8 0] 5)) 84 5 9 Tryz.underlying84 Tryz.underlying5 Tryz.underlying9 (a:=some ⟨w.heap.size,0,none⟩) (xs:=[0]) (fun i x hx=>⟨w.heap.size,0,rfl,by
        match i with
        | 0=>simp at hx;subst hx;exact zH w (.int .u8 0) 5
        | i+1=>simp at hx⟩) 1 1 rfl
       go_enter Tryz.func109,Tryz.ntmps109;go_wp2_with (go_at_call 144;refine (hcall.out).mono ?_;rintro e w' ⟨rfl,rfl⟩)
       go_ret2
       exact ⟨zLM (by rw [h1.out]) h2.out.symm,(Below.refl _ _).alloc (Nat.le_refl _) _⟩
     · have h1:=Bx.mk (Pal.packB_main hbad h0);have hb:((xs.length:Int) == 0)=false:=beq_eq_false_iff_ne.2 (by omega)
       have hmem:=Bx.mk (Pal.mem_diff xs);have hdl:=Pal.diff_length xs;have hpal:=Bx.mk (zKv a cap xs w (by omega) h)
       clear hbad;generalize hn:xs.length=n at *;have Hn:=Bx.mk hn;clear hn;have hmain:Bx (Pal.packMain xs=(n:Int)::((Pal.diff xs).length:Int)::(Pal.diff xs++Pal.packs (Pal.width (Pal.diff xs).length) (fun i=>(Pal.diff xs).idxOf (xs.getD i 0)) n)):=Bx.mk (by rw [←Hn.out];rfl)
       generalize Pal.diff xs=p at *;have hF:Bx (∀ k x,xs[k]? = some x→p.idxOf (xs.getD k 0)=p.idxOf x∧x∈p):=Bx.mk (fun k x hx=>⟨by simp [hx],(hmem.out x).2 (List.mem_of_getElem? hx)⟩)
       generalize hFd:(fun i=>p.idxOf (xs.getD i 0))=F at hmain;have hF':Bx (∀ k x,xs[k]? = some x→F k=p.idxOf x∧x∈p):=Bx.mk (by rw [←hFd];exact hF.out)
       clear hFd hF;generalize hmd:p.length=m at *;have Hm:=Bx.mk hmd;clear hmd
       have hwd:Bx (∀ k,0<Pal.width m→k<n→Pal.Wd (Pal.width m)∧F k<2 ^ Pal.width m):=Bx.mk (fun k h1 hk=>by
        obtain ⟨x,hx⟩:=zBT Hn hk;obtain ⟨h2,h3⟩:=hF'.out k x hx;have:1<m:=by unfold Pal.width at h1;split at h1 <;> omega
        exact ⟨Pal.width_wd this,by rw [h2];exact Nat.lt_of_lt_of_le (idx_lt h3) (by rw [Hm.out];exact Pal.width_fits (by omega))⟩)
       go_enter Tryz.func109,Tryz.ntmps109
       go_wp2_with (first
        | (go_at_call 144;refine (hcall.out).mono ?_;rintro e w' ⟨rfl,rfl⟩)
        | (go_at_call 145;refine (hpal.out).mono ?_;rintro e w1 ⟨v,rfl,hown,hbel⟩;obtain ⟨pa,pc,rfl,hsl⟩:=hown.form;rw [Hm.out]))
       have hn1:1≤n:=by omega
       have hp1:Sl (w1.alloc (.cells #[.int .u8 (n:Int),.int .u8 (m:Int)] 5)) .i64 pa p:=hsl.below ((Below.refl _ _).alloc (Nat.le_refl _) _)
       go_loopw [6,7] (fun v i wr => ∃ k:Nat,k≤m∧i = .int .i64 k∧Own wr w1.heap.size 5 .u8 v ([(n:Int),(m:Int)]++p.take k)∧Below w1.heap.size w1 wr) (fun _ i _=>m - (intOf i).toNat)
       case atStart=>exact ⟨0,Nat.zero_le _,rfl,by rw [List.take_zero,List.append_nil];exact Own.lit w1 _ _ _ _ _ 2 (Nat.le_refl _) (by simp [maxLen]) rfl rfl,(Below.refl _ _).alloc (Nat.le_refl _) _⟩
       case round =>
        obtain ⟨k,hk,rfl,hown2,hbel2⟩:=hrel;by_cases hlt:k<m
        · obtain ⟨x,hx⟩:=zBT Hm hlt;obtain ⟨b,off,rfl,hcx⟩:=(hsl.below hbel2) k x hx
          have hxc:0≤x∧x≤255:=by
           have h3:=(hmem.out x).1 (List.mem_of_getElem? hx);have h4:=List.all_eq_true.1 Hall.out x h3;simpa [Pal.cell] using h4
          have htk:=Bx.mk (show p.take (k+1)=p.take k++[x] by rw [List.take_add_one,hx];rfl)
          have hxs:=Bx.mk hx;have hlen:([(n:Int),(m:Int)]++p.take k).length≤100000:=by simp;omega
          obtain ⟨hx0,hx1⟩:=hxc;clear hx
          go_wp2_with (first | (
           at_builtin
           refine zAF rfl _ _ 84 rfl 5 .u8 (.int .u8 0) 1 (by omega) Tryz.underlying84 (by kernel_rfl) rfl w1.heap.size _ _ rfl (hown2.alloc _) x ⟨wr.heap.size,0,none⟩ 1 rfl (zH _ _ _) (by omega) (ze hbel2.size _) ?_
           intro v1 w2 hown3 hg1 _))
          go_roundw
          case rel=>exact ⟨k+1,by omega,by go_num,by rw [htk.out,←List.append_assoc];exact hown3,(hbel2.alloc hbel2.size _).grown hg1 (ze hbel2.size _) (fun g hg=>(hown2.lt g hg).1)⟩
          case measure=>simp [intOf];omega
        · have hkn:k=m:=by omega
          have hpre:p.take k=p:=by rw [hkn,←Hm.out,List.take_length]
          rw [hpre] at hown2;clear hkn hpre;have hwd8:Pal.width m≤8:=by unfold Pal.width;repeat (split <;> try omega)
          have hmain2:Bx (Pal.packMain xs=([(n:Int),(m:Int)]++p)++Pal.bytes (Pal.width m) F n ((n * Pal.width m+7) / 8)):=Bx.mk (by rw [hmain.out,Pal.packs_eq];rfl)
          have hprel:([(n:Int),(m:Int)]++p).length≤100:=by have:=Hm.out;simp;omega
          have hwref:=Bx.mk (fun W=>zOB m W (by omega))
          clear hmain;generalize [(n:Int),(m:Int)]++p=pre at *;generalize Pal.width m=wd at *;go_wp2_with (first | (go_at_call 146;refine (hwref.out _).mono ?_;rintro e w' ⟨rfl,rfl⟩));obtain ⟨W2,rfl⟩ : ∃ W:World,W=wr:=⟨_,rfl⟩
          go_loopw [6,9,10] (fun v t i wr => ∃ k t':Nat,k≤n∧i = .int .i64 k∧t = .int .i64 t'∧t'=k * wd∧Own wr w1.heap.size 5 .u8 v (pre++Pal.bytes wd F k ((k * wd+7) / 8))∧Below w1.heap.size w1 wr) (fun _ _ i _=>n - (intOf i).toNat)
          case atStart=>exact ⟨0,0,Nat.zero_le _,rfl,rfl,by simp,by simpa [Pal.bytes] using hown2,hbel2⟩
          case round =>
           clear hown2 hbel2;obtain ⟨k,t,hk,rfl,rfl,ht,hown2,hbel2⟩:=hrel;by_cases hlt:k<n
           · by_cases hw0:0<wd
             · obtain ⟨hWd,hFk⟩:=hwd.out k hw0 hlt;obtain ⟨hb1,hb2,hb3,hb4⟩:=zBe hWd ht;obtain ⟨x,hx⟩:=zBT Hn hlt;obtain ⟨j,hj1,hj2,hj⟩ : ∃ j,8 * j≤t∧t<8 * j+8∧j=t / 8:=⟨t / 8,by omega,by omega,rfl⟩
               obtain ⟨s,hs1,hs⟩ : ∃ s,s+wd≤8∧s=t % 8:=⟨t % 8,by omega,rfl⟩
               have Hbs:=Bx.mk (zBu wd hWd F k j s (fun i hi=>(hwd.out i hw0 (by omega)).2) (by omega) (by omega))
               have HFk2:=Bx.mk hFk;have HWd:=Bx.mk hWd;have hjb:j≤1000:=by rcases hWd with h | h | h | h <;> rw [h] at ht <;> omega
               have ht8:t≤9000:=by omega
               have hbj:Pal.byt wd F k j=0∨t % 8 ≠ 0:=by
                by_cases h8:t % 8=0
                · exact .inl ((Pal.byt_lt wd F hWd k (fun i hi=>(hwd.out i hw0 (by omega)).2) j).1 (by omega))
                · exact .inr h8
               have Hbj:=Bx.mk hbj;have Ht:=Bx.mk ht;have Hj:=Bx.mk hj;have Hs:=Bx.mk hs;have Hb4:=Bx.mk hb4;clear hWd hFk hbj hb1 hb4;by_cases ht0:t % 8=0
               · have hz:((t:Int) % 8 == 0)=true:=beq_iff_eq.2 (by omega)
                 have hb0:=Bx.mk ((Hbj.out).resolve_right (by omega))
                 rw [hb2 ht0,←hj] at hown2;clear hb2 hb3 hj hs ht ht0
                 go_wp2_with (first | (
                  at_builtin
                  refine zAF rfl _ _ 84 rfl 5 .u8 (.int .u8 0) 1 (by omega) Tryz.underlying84 (by kernel_rfl) rfl w1.heap.size _ _ rfl (hown2.alloc _) 0 ⟨wr.heap.size,0,none⟩ 1 rfl (zH _ _ _) (by simp [Pal.bytes];omega) (ze hbel2.size _) ?_
                  intro v1 w2 hown3 hg1 _))
                 rw [List.append_assoc,Pal.bytes_more _ _ _ _ hb0.out] at hown3;have hbel4:=(hbel2.alloc hbel2.size _).grown hg1 (ze hbel2.size _) (fun g hg=>(hown2.lt g hg).1);clear hg1;obtain ⟨g,cg,rfl,hgB,hglt,hgc,hgf,hgs⟩:=hown3.at (by rw [List.length_append,Pal.bytes_length];omega)
                 have hgcj:=hgc (pre.length+j) _ (Pal.bytes_at pre wd F k (j+1) j (by omega))
                 have Hgs:=Bx.mk (hgs (pre.length+j) ((Pal.byt wd F k j+F k * 2 ^ (k * wd % 8):Nat):Int));have hfr:=hgf (pre.length+j);have hL:(pre++Pal.bytes wd F k (j+1)).length=pre.length+j+1:=by simp [Pal.bytes];omega
                 rw [hL] at Hgs ⊢;clear hgc hgf hgs hown3 hL;have hbel3:=hbel.trans (hbel4.mono hbel.size);obtain ⟨b,off,rfl,hcx⟩:=(h.below hbel3) k x hx;clear h;have Hx:=Bx.mk hx;clear hx
                 have hcl:Calls Tryz.prog 147 #[.slice pa m pc,x] w2.drew fun e w'=>e = .returned (.int .i64 (F k:Nat))∧w'=w2.drew:=by
                  have:=zKl pa pc p x w2.drew (by have:=Hm.out;omega) (hsl.below hbel4.drew)
                  rw [Hm.out] at this;exact this.mono (by rintro e w' ⟨rfl,rfl⟩;exact ⟨zLL ((hF'.out k x Hx.out).1).symm,rfl⟩)
                 have Hcl:=Bx.mk hcl;clear hcl;have hqb:pre.length+j≤2000:=by omega
                 generalize hq:pre.length+j=q at *;have Hq:=Bx.mk hq;clear hq;have e1:IntKind.i64.wrap (q:Int)=q:=IntWalk.i64_in _ (by omega)
                 have hq1:(q:Int)<(q:Int)+1:=by omega
                 have e2:(t:Int).tmod 8=(s:Int):=by rw [IntWalk.rem_in _ _ (by omega)];have:=Hs.out;omega
                 generalize hBd:Pal.byt wd F k j=B at *;have HBd:=Bx.mk hBd;clear hBd;have hval:=Bx.mk (zAv wd s B (F k) Hbs.out HFk2.out (by omega))
                 refine wp_region_still_tail 22 (by kernel_rfl) (by kernel_rfl) ?_
                 simp only [List.take_succ_cons,List.take_zero,List.drop_succ_cons,List.drop_zero]
                 repeat still_step
                 still_call Hcl.out
                 repeat still_step
                 refine wpStill_nil ?_;change wpList _ _ _ _ _ w2.drew;rw [hval.out];go_wp2
                 go_roundw
                 case rel =>
                  refine ⟨k+1,t+wd,by omega,by go_num,by go_num,by rw [Ht.out,Nat.succ_mul],?_,(hbel4.drew).setCell hgB _⟩
                  have hs':k * wd % 8=s:=by rw [←Ht.out,Hs.out]
                  have h1:=Hgs.out
                  rw [show (pre++Pal.bytes wd F k (j+1)).set q ((B+F k * 2 ^ (k * wd % 8):Nat):Int)=pre++Pal.bytes wd F (k+1) (j+1) from by
                   rw [←Hq.out,←HBd.out];exact Pal.bytes_set pre wd F k (j+1) j (by rw [Hj.out,Ht.out])] at h1
                  rw [hs'] at h1;rw [Hb4.out,←Hj.out];exact h1.drew
                 case measure=>simp [intOf];omega
               · have hz:((t:Int) % 8 == 0)=false:=beq_eq_false_iff_ne.2 (by omega)
                 rw [hb3 ht0,←hj] at hown2;clear hb2 hb3 hj hs ht ht0;go_wp2_with fail;obtain ⟨g,cg,rfl,hgB,hglt,hgc,hgf,hgs⟩:=hown2.at (by rw [List.length_append,Pal.bytes_length];omega)
                 have hgcj:=hgc (pre.length+j) _ (Pal.bytes_at pre wd F k (j+1) j (by omega))
                 have Hgs:=Bx.mk (hgs (pre.length+j) ((Pal.byt wd F k j+F k * 2 ^ (k * wd % 8):Nat):Int));have hfr:=hgf (pre.length+j);have hL:(pre++Pal.bytes wd F k (j+1)).length=pre.length+j+1:=by simp [Pal.bytes];omega
                 rw [hL] at Hgs ⊢;clear hgc hgf hgs hown2 hL;have hbel3:=hbel.trans (hbel2.mono hbel.size);obtain ⟨b,off,rfl,hcx⟩:=(h.below hbel3) k x hx;clear h;have Hx:=Bx.mk hx;clear hx
                 have hcl:Calls Tryz.prog 147 #[.slice pa m pc,x] wr.drew fun e w'=>e = .returned (.int .i64 (F k:Nat))∧w'=wr.drew:=by
                  have:=zKl pa pc p x wr.drew (by have:=Hm.out;omega) (hsl.below hbel2.drew)
                  rw [Hm.out] at this;exact this.mono (by rintro e w' ⟨rfl,rfl⟩;exact ⟨zLL ((hF'.out k x Hx.out).1).symm,rfl⟩)
                 have Hcl:=Bx.mk hcl;clear hcl;have hqb:pre.length+j≤2000:=by omega
                 generalize hq:pre.length+j=q at *;have Hq:=Bx.mk hq;clear hq;have e1:IntKind.i64.wrap (q:Int)=q:=IntWalk.i64_in _ (by omega)
                 have hq1:(q:Int)<(q:Int)+1:=by omega
                 have e2:(t:Int).tmod 8=(s:Int):=by rw [IntWalk.rem_in _ _ (by omega)];have:=Hs.out;omega
                 generalize hBd:Pal.byt wd F k j=B at *;have HBd:=Bx.mk hBd;clear hBd;have hval:=Bx.mk (zAv wd s B (F k) Hbs.out HFk2.out (by omega))
                 refine wp_region_still_tail 22 (by kernel_rfl) (by kernel_rfl) ?_
                 simp only [List.take_succ_cons,List.take_zero,List.drop_succ_cons,List.drop_zero]
                 repeat still_step
                 still_call Hcl.out
                 repeat still_step
                 refine wpStill_nil ?_;change wpList _ _ _ _ _ wr.drew;rw [hval.out];go_wp2
                 go_roundw
                 case rel =>
                  refine ⟨k+1,t+wd,by omega,by go_num,by go_num,by rw [Ht.out,Nat.succ_mul],?_,(hbel2.drew).setCell hgB _⟩
                  have hs':k * wd % 8=s:=by rw [←Ht.out,Hs.out]
                  have h1:=Hgs.out
                  rw [show (pre++Pal.bytes wd F k (j+1)).set q ((B+F k * 2 ^ (k * wd % 8):Nat):Int)=pre++Pal.bytes wd F (k+1) (j+1) from by
                   rw [←Hq.out,←HBd.out];exact Pal.bytes_set pre wd F k (j+1) j (by rw [Hj.out,Ht.out])] at h1
                  rw [hs'] at h1;rw [Hb4.out,←Hj.out];exact h1.drew
                 case measure=>simp [intOf];omega
             · have hw00:wd=0:=by omega
               have he:pre++Pal.bytes wd F k ((k * wd+7) / 8)=Pal.packB xs:=by rw [h1.out,hmain2.out,hw00];simp [Pal.bytes]
               rw [he] at hown2;clear he hw00;obtain ⟨a1,c1,rfl,hsl3⟩:=hown2.form;have hcv:=zK (P:=Tryz.prog) 84 5 9 Tryz.underlying84 Tryz.underlying5 Tryz.underlying9 hsl3 _ c1 rfl;go_wp2
               go_ret2
               exact ⟨zLM rfl h2.out.symm,hbel.trans (hbel2.mono hbel.size)⟩
           · have hkn:k=n:=by omega
             rw [hkn,←hmain2.out,←h1.out] at hown2;clear hkn;obtain ⟨a1,c1,rfl,hsl3⟩:=hown2.form;have hcv:=zK (P:=Tryz.prog) 84 5 9 Tryz.underlying84 Tryz.underlying5 Tryz.underlying9 hsl3 _ c1 rfl;go_wp2
             go_ret2
             exact ⟨zLM rfl h2.out.symm,hbel.trans (hbel2.mono hbel.size)⟩
end Go.Proofs.YtgnfgblkpnfcnaaGreatDoor.PalE
namespace Go.Proofs.YtgnfgblkpnfcnaaGreatDoor.PalE
set_option maxRecDepth 100000
open Go.RowKit
theorem zJ9 (a:Option Addr) (n cap:Nat) (f:Value) (w:World) (_hl:n≤1000) :
 Calls Tryz.prog 167 #[.slice a n cap,(0:Int),f] w fun e w'=>e = .returned (.slice none 0 0)∧w=w':=by
 go_enter Tryz.func167,Tryz.ntmps167;go_wp2;go_ret;exact ⟨rfl,rfl⟩
theorem zJ0 (wd:Nat) (hwd:Pal.Wd wd) (a:Option Addr) (cap:Nat) (xs:List Int) (pp:Addr) (pa:Option Addr) (pc:Nat) (p:List Int) (w:World) (hl:xs.length≤1000) (h:Sl w .i64 a xs)
 (hpl:p.length≤2 ^ wd) (hin : ∀ x,x∈xs→x∈p) (hc:w.cell? pp=some (.slice pa p.length pc)) (hp:Sl w .i64 pa p) :
 Calls Tryz.prog 167 #[.slice a xs.length cap,(wd:Int),.func (.func 169) #[] #[.pointer (some pp)]] w fun e w' =>
  ∃ v,e = .returned v∧Own w' w.heap.size 5 .u8 v (Pal.packs wd (fun i=>p.idxOf (xs.getD i 0)) xs.length)∧Below w.heap.size w w':=by
 rcases hwd with rfl | rfl | rfl | rfl
 · exact zJ2 a cap xs pp pa pc p w hl h hpl hin hc hp
 · exact zJ3 a cap xs pp pa pc p w hl h hpl hin hc hp
 · exact zJ4 a cap xs pp pa pc p w hl h hpl hin hc hp
 · exact zJ5 a cap xs pp pa pc p w hl h hpl hin hc hp
theorem zJ8 (a:Option Addr) (cap:Nat) (xs:List Int) (pp:Addr) (pa:Option Addr) (pc:Nat) (p:List Int) (w:World) (hl:xs.length≤64) (h:Sl w .i64 a xs)
 (hpl:p.length≤xs.length) (hin : ∀ x,x∈xs→x∈p) (hc:w.cell? pp=some (.slice pa p.length pc)) (hp:Sl w .i64 pa p) :
 Calls Tryz.prog 167 #[.slice a xs.length cap,.int .i64 (Pal.width p.length:Nat),.func (.func 169) #[] #[.pointer (some pp)]] w fun e w' =>
  ∃ v,e = .returned v∧Own w' w.heap.size 5 .u8 v (Pal.packs (Pal.width p.length) (fun i=>p.idxOf (xs.getD i 0)) xs.length)∧Below w.heap.size w w':=by
 by_cases h1:1<p.length
 · exact zJ0 _ (Pal.width_wd h1) a cap xs pp pa pc p w (by omega) h (Pal.width_fits (by omega)) hin hc hp
 · have h0:Pal.width p.length=0:=by unfold Pal.width;rw [if_pos (by omega)]
   rw [h0];refine (zJ9 a xs.length cap _ w (by omega)).mono ?_
   rintro e w' ⟨rfl,rfl⟩;refine ⟨_,rfl,?_,Below.refl _ _⟩;have:Pal.packs 0 (fun i=>p.idxOf (xs.getD i 0)) xs.length=[]:=by simp [Pal.packs]
   rw [this];exact Own.nil _ _ _ _
theorem zJQ (a:Option Addr) (cap:Nat) (xs:List Int) (w:World) (hl:xs.length≤1000) (h:Sl w .i64 a xs) :
 Calls Tryz.prog 138 #[.slice a xs.length cap] w fun e w'=>e = .returned (.tuple #[.string (strOfNums (Pal.packB xs)),.int .i64 (Pal.packE xs)])∧Below w.heap.size w w':=by
 by_cases h64:64<xs.length
 · have hbad:Pal.bad xs=true:=by simp [Pal.bad,h64]
   have h1:=Bx.mk (Pal.packB_bad hbad);have h2:=Bx.mk (Pal.packE_bad hbad);clear hbad;generalize xs.length=n at *;go_enter Tryz.func138,Tryz.ntmps138;go_wp2
   go_ret2
   exact ⟨zLM (by rw [h1.out];rfl) h2.out.symm,Below.refl _ _⟩
 cases hall:xs.all Pal.cell with
 | false =>
   have hbad:Pal.bad xs=true:=by simp [Pal.bad,hall]
   have h1:=Bx.mk (Pal.packB_bad hbad);have h2:=Bx.mk (Pal.packE_bad hbad);have hcall:=Bx.mk ((zNt a cap xs w (by omega) h).mono (R':=fun e w'=>e = .returned (.bool false)∧w=w') (by rw [hall];exact fun _ _ h=>h))
   clear hall hbad;generalize xs.length=n at *;go_enter Tryz.func138,Tryz.ntmps138;go_wp2_with (first | (go_at_call 165;refine (hcall.out).mono ?_;rintro e w' ⟨rfl,rfl⟩))
   go_ret2
   exact ⟨zLM (by rw [h1.out];rfl) h2.out.symm,Below.refl _ _⟩
 | true =>
   have hbad:Pal.bad xs=false:=by simp [Pal.bad,hall];omega
   have h2:=Bx.mk (Pal.packE_good hbad);have hcall:=Bx.mk ((zNt a cap xs w (by omega) h).mono (R':=fun e w'=>e = .returned (.bool true)∧w=w') (by rw [hall];exact fun _ _ h=>h))
   have Hall:=Bx.mk hall;clear hall;by_cases h0:xs.length=0
   · have h1:=Bx.mk (Pal.packB_nil hbad h0);clear hbad h;have hb:((xs.length:Int) == 0)=true:=by simp [h0]
     generalize xs.length=n at *;clear h0
     have hcv:=fun w:World=>zK (P:=Tryz.prog) (w:=w.alloc (.cells #[.int .u8 0] 5)) 84 5 9 Tryz.underlying84 Tryz.underlying5 Tryz.underlying9 (a:=some ⟨w.heap.size,0,none⟩) (xs:=[0]) (fun i x hx=>⟨w.heap.size,0,rfl,by
      match i with
      | 0=>simp at hx;subst hx;exact zH w (.int .u8 0) 5
      | i+1=>simp at hx⟩) 1 1 rfl
     go_enter Tryz.func138,Tryz.ntmps138;go_wp2_with (first | (go_at_call 165;refine (hcall.out).mono ?_;rintro e w' ⟨rfl,rfl⟩))
     go_ret2
     exact ⟨zLM (by rw [h1.out]) h2.out.symm,(Below.refl _ _).alloc (Nat.le_refl _) _⟩
   · have h1:=Bx.mk (Pal.packB_main hbad h0);have hb:((xs.length:Int) == 0)=false:=beq_eq_false_iff_ne.2 (by omega)
     have hmem:=Bx.mk (Pal.mem_diff xs);have hdl:=Pal.diff_length xs;have hpal:=Bx.mk (zDX a cap xs w (by omega) h)
     clear hbad;generalize hn:xs.length=n at *;have Hn:=Bx.mk hn;clear hn;have hmain:Bx (Pal.packMain xs=([(n:Int),((Pal.diff xs).length:Int)]++Pal.diff xs)++Pal.packs (Pal.width (Pal.diff xs).length) (fun i=>(Pal.diff xs).idxOf (xs.getD i 0)) n):=Bx.mk (by rw [←Hn.out];rfl)
     generalize Pal.diff xs=p at *;generalize hmd:p.length=m at *;have Hm:=Bx.mk hmd;clear hmd;go_enter Tryz.func138,Tryz.ntmps138
     go_wp2_with (first
      | (go_at_call 165;refine (hcall.out).mono ?_;rintro e w' ⟨rfl,rfl⟩)
      | (go_at_call 166;refine (hpal.out).mono ?_;rintro e w1 ⟨v,rfl,hown,hbel⟩;obtain ⟨pa,pc,rfl,hsl⟩:=hown.form;rw [Hm.out]))
     have hW0:Below w1.heap.size w1 (w1.alloc (.cells #[.slice pa m pc] 26)):=(Below.refl _ _).alloc (Nat.le_refl _) _;have hcp0:(w1.alloc (.cells #[.slice pa m pc] 26)).cell? ⟨w1.heap.size,0,none⟩=some (.slice pa m pc):=zH _ _ _;have hsz0:(w1.alloc (.cells #[.slice pa m pc] 26)).heap.size=w1.heap.size+1:=by simp
     generalize w1.alloc (.cells #[.slice pa m pc] 26)=w0 at *;rw [←hsz0];have Hsz0:=Bx.mk hsz0;clear hsz0
     go_loopw [5,32] (fun v i wr => ∃ k:Nat,k≤m∧i = .int .i64 k∧Own wr w0.heap.size 5 .u8 v ([(n:Int),(m:Int)]++p.take k)∧Below w0.heap.size w0 wr) (fun _ i _=>m - (intOf i).toNat)
     case atStart=>exact ⟨0,Nat.zero_le _,rfl,by rw [List.take_zero,List.append_nil];exact Own.lit w0 _ _ _ _ _ 2 (Nat.le_refl _) (by simp [maxLen]) rfl rfl,(Below.refl _ _).alloc (Nat.le_refl _) _⟩
     case round =>
      obtain ⟨k,hk,rfl,hown2,hbel2⟩:=hrel;have hsl2:=(hsl.below hW0).below hbel2;by_cases hlt:k<m
      · obtain ⟨x,hx⟩:=zBT Hm hlt;obtain ⟨b,off,rfl,hcx⟩:=hsl2 k x hx
        have hxc:0≤x∧x≤255:=by
         have h3:=(hmem.out x).1 (List.mem_of_getElem? hx);have h4:=List.all_eq_true.1 Hall.out x h3;simpa [Pal.cell] using h4
        have htk:=Bx.mk (show p.take (k+1)=p.take k++[x] by rw [List.take_add_one,hx];rfl)
        have hlen:([(n:Int),(m:Int)]++p.take k).length≤100000:=by simp;omega
        obtain ⟨hx0,hx1⟩:=hxc;clear hx
        go_wp2_with (first | (
         at_builtin
         refine zAF rfl _ _ 84 rfl 5 .u8 (.int .u8 0) 1 (by omega) Tryz.underlying84 (by kernel_rfl) rfl w0.heap.size _ _ rfl (hown2.alloc _) x ⟨wr.heap.size,0,none⟩ 1 rfl (zH _ _ _) (by omega) (ze hbel2.size _) ?_
         intro v1 w2 hown3 hg1 _))
        go_roundw
        case rel=>exact ⟨k+1,by omega,by go_num,by rw [htk.out,←List.append_assoc];exact hown3,(hbel2.alloc hbel2.size _).grown hg1 (ze hbel2.size _) (fun g hg=>(hown2.lt g hg).1)⟩
        case measure=>simp [intOf];omega
      · have hkn:k=m:=by omega
        have hpre:p.take k=p:=by rw [hkn,←Hm.out,List.take_length]
        rw [hpre] at hown2;clear hkn hpre;have hprel:([(n:Int),(m:Int)]++p).length≤100:=by have:=Hm.out;simp;omega
        have hpkl:(Pal.packs (Pal.width m) (fun i=>List.idxOf (xs.getD i 0) p) n).length≤1000:=by
         have hw8:Pal.width m≤8:=by unfold Pal.width;repeat (split <;> try omega)
         have:n * Pal.width m≤n * 8:=Nat.mul_le_mul_left _ hw8;simp [Pal.packs];omega
        have hwref:=Bx.mk (fun W=>zOA m W (by omega))
        have hput:Bx (∀ W:World,Below w.heap.size w W→Below w1.heap.size w1 W→W.cell? ⟨w1.heap.size,0,none⟩=some (.slice pa m pc)→Calls Tryz.prog 167 #[.slice a n cap,.int .i64 (Pal.width m:Nat),.func (.func 169) #[] #[.pointer (some ⟨w1.heap.size,0,none⟩)]] W fun e w' =>
         ∃ v,e = .returned v∧Own w' W.heap.size 5 .u8 v (Pal.packs (Pal.width m) (fun i=>p.idxOf (xs.getD i 0)) n)∧Below W.heap.size W w'):=Bx.mk (fun W hb1 hb2 hcW=>by
         have:=zJ8 a cap xs ⟨w1.heap.size,0,none⟩ pa pc p W (by have:=Hn.out;omega) (h.below hb1) (by have:=Hn.out;have:=Hm.out;omega) (fun x hx=>(hmem.out x).2 hx) (by rw [Hm.out];exact hcW) (hsl.below hb2)
         rw [Hn.out,Hm.out] at this;exact this)
        generalize Pal.packs (Pal.width m) (fun i=>List.idxOf (xs.getD i 0) p) n=pk at *;generalize [(n:Int),(m:Int)]++p=pre at *;generalize Pal.width m=wd at *;have hcp:=(hbel2.cell (p:=⟨w1.heap.size,0,none⟩) (by have:=Hsz0.out;simp;omega)).trans hcp0
        have hbw:Below w.heap.size w wr:=(hbel.trans (hW0.mono hbel.size)).trans (hbel2.mono (by have:=Hsz0.out;have:=hbel.size;omega))
        have hb1:Below w1.heap.size w1 wr:=hW0.trans (hbel2.mono (by have:=Hsz0.out;omega))
        go_wp2_with (first
         | (go_at_call 168;refine (hwref.out _).mono ?_;rintro e w3 ⟨rfl,hb3⟩;have hc3:=cell_later hb3 hcp)
         | (go_at_call 167;refine (hput.out _ (hbw.trans (hb3.mono hbw.size)) (hb1.trans (hb3.mono hb1.size)) hc3).mono ?_;rintro e w4 ⟨v4,rfl,hown4,hb4⟩;obtain ⟨a4,c4,rfl,hsl4⟩:=hown4.form)
         | (at_builtin
            refine zAG rfl _ _ 84 rfl 5 .u8 (.int .u8 0) 1 (by omega) Tryz.underlying84 (by kernel_rfl) rfl w0.heap.size _ pre rfl ((hown2.below hb3).below hb4) pk _ _ c4 rfl rfl hsl4 (by omega) (Nat.le_trans hbel2.size (Nat.le_trans hb3.size hb4.size)) ?_
            intro v5 w5 hown5 hg5 _;obtain ⟨a5,c5,rfl,hsl5⟩:=hown5.form;have hcv:=zK (P:=Tryz.prog) 84 5 9 Tryz.underlying84 Tryz.underlying5 Tryz.underlying9 hsl5 (pre.length+pk.length) c5 (by simp)))
        go_ret2
        have hb5:Below w.heap.size w w4:=(hbw.trans (hb3.mono hbw.size)).trans (hb4.mono (Nat.le_trans hbw.size hb3.size));refine ⟨zLM (by rw [h1.out,hmain.out]) h2.out.symm,hb5.grown hg5 hb5.size (fun g hg=>?_)⟩
        have:=(((hown2.below hb3).below hb4).lt g hg).1;have:=hbel.size;have:=Hsz0.out;omega
end Go.Proofs.YtgnfgblkpnfcnaaGreatDoor.PalE
namespace Go.Proofs.YtgnfgblkpnfcnaaGreatDoor.PalE
set_option maxRecDepth 100000
open Go.RowKit
theorem pal_encode (a:Option Addr) (cap:Nat) (xs:List Int) (w:World) (hl:xs.length≤1000) (h:Sl w .i64 a xs) :
 Calls Tryz.prog 89 #[.slice a xs.length cap] w fun e w'=>e = .returned (.tuple #[.string (strOfNums (Pal.encB xs)),.int .i64 (Pal.encE xs)])∧Below w.heap.size w w':=by
 have hc:=Bx.mk (zJQ a cap xs w hl h);by_cases h64:xs.length=64
 · have hb:((xs.length:Int) != 64)=false:=by simp;omega
   have h1:=Bx.mk (show Pal.encB xs=Pal.packB xs by simp [Pal.encB,h64])
   have h2:=Bx.mk (show Pal.encE xs=Pal.packE xs by simp [Pal.encE,h64])
   generalize Pal.encB xs=eb at *;generalize Pal.encE xs=ee at *;clear h64 h;generalize xs.length=n at *;go_enter Tryz.func89,Tryz.ntmps89;go_wp2_with (first | (go_at_call 138;refine (hc.out).mono ?_;rintro e w1 ⟨rfl,hb1⟩))
   go_ret2
   exact ⟨zLM (by rw [h1.out]) h2.out.symm,hb1⟩
 · have hb:((xs.length:Int) != 64)=true:=by simp;omega
   have h1:=Bx.mk (show Pal.encB xs=[] by simp [Pal.encB,h64])
   have h2:=Bx.mk (show Pal.encE xs=1 by simp [Pal.encE,h64])
   generalize Pal.encB xs=eb at *;generalize Pal.encE xs=ee at *;clear h64 h;generalize xs.length=n at *;go_enter Tryz.func89,Tryz.ntmps89;go_wp2
   go_ret2
   exact ⟨zLM (by rw [h1.out];rfl) h2.out.symm,Below.refl _ _⟩
theorem ref_encode (a:Option Addr) (cap:Nat) (xs:List Int) (w:World) (hl:xs.length≤1000) (h:Sl w .i64 a xs) :
 Calls Tryz.prog 49 #[.slice a xs.length cap] w fun e w'=>e = .returned (.tuple #[.string (strOfNums (Pal.encB xs)),.int .i64 (Pal.encE xs)])∧Below w.heap.size w w':=by
 have hc:=Bx.mk (zKu a cap xs w hl h);by_cases h64:xs.length=64
 · have hb:((xs.length:Int) != 64)=false:=by simp;omega
   have h1:=Bx.mk (show Pal.encB xs=Pal.packB xs by simp [Pal.encB,h64])
   have h2:=Bx.mk (show Pal.encE xs=Pal.packE xs by simp [Pal.encE,h64])
   generalize Pal.encB xs=eb at *;generalize Pal.encE xs=ee at *;clear h64 h;generalize xs.length=n at *;go_enter Tryz.func49,Tryz.ntmps49;go_wp2_with (first | (go_at_call 109;refine (hc.out).mono ?_;rintro e w1 ⟨rfl,hb1⟩))
   go_ret2
   exact ⟨zLM (by rw [h1.out]) h2.out.symm,hb1⟩
 · have hb:((xs.length:Int) != 64)=true:=by simp;omega
   have h1:=Bx.mk (show Pal.encB xs=[] by simp [Pal.encB,h64])
   have h2:=Bx.mk (show Pal.encE xs=1 by simp [Pal.encE,h64])
   generalize Pal.encB xs=eb at *;generalize Pal.encE xs=ee at *;clear h64 h;generalize xs.length=n at *;go_enter Tryz.func49,Tryz.ntmps49;go_wp2
   go_ret2
   exact ⟨zLM (by rw [h1.out];rfl) h2.out.symm,Below.refl _ _⟩
end Go.Proofs.YtgnfgblkpnfcnaaGreatDoor.PalE
end
