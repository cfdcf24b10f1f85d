/- Jrd, Jbe, Jrm, Jdc, Jra: joined by program, for one claim. -/
import Derived.Test.YtajhkncolbgkbaaDoorM22
import Derived.Test.YtajhkncolbgkbaaDoorM15
import Derived.Test.YtajhkncolbgkbaaDoorM17
import Derived.Test.YtajhkncolbgkbaaDoorM16
import Derived.Test.YtajhkncolbgkbaaDoorM9
import Derived.Test.YtajhkncolbgkbaaDoorM21
import Derived.BigQuiet
set_option linter.unusedVariables false
set_option linter.unusedSimpArgs false
namespace Go.Proofs.YtajhkncolbgkbaaDoor
section
open Go.RowKit Go.Sort Go.Maps
def rdD (D:List (List Int)) (i:Nat):List Int × Int:=(D.getD i [],0)
def flatD (D:List (List Int)) (base k:Nat):List Int:=(List.range k).flatMap fun i=>D.getD (base+i) []
theorem flatD_succ (D:List (List Int)) (base k:Nat):flatD D base (k+1)=flatD D base k++D.getD (base+k) []:=by
 unfold flatD;rw [List.range_succ,List.flatMap_append];simp
theorem gatJ_flat (D:List (List Int)) (base:Nat) (k:Nat):gatJ (rdD D) base k = .ok (flatD D base k):=gatJ_all k fun _ _=>rfl
theorem flatD_len {D:List (List Int)} (hD : ∀ x∈D,x.length=116∧Byts x) {base k:Nat} (h:base+k≤D.length):(flatD D base k).length=116 * k∧Byts (flatD D base k):=by
 induction k with
 | zero=>exact ⟨rfl,fun x hx=>by simp [flatD] at hx⟩
 | succ k ih =>
   obtain ⟨h1,h2⟩:=ih (by omega)
   have hx:D.getD (base+k) []∈D:=by
    rw [List.getD_eq_getElem?_getD,List.getElem?_eq_getElem (by omega)];exact List.getElem_mem _
   obtain ⟨h3,h4⟩:=hD _ hx
   rw [flatD_succ]
   refine ⟨by rw [List.length_append,h1,h3];omega,fun y hy=>?_⟩
   rcases List.mem_append.1 hy with hy | hy
   · exact h2 y hy
   · exact h4 y hy
theorem flatD_pre {D:List (List Int)} {base:Nat} : ∀ (j k:Nat),j≤k→flatD D base j <+: flatD D base k
 | j, 0, h => by obtain rfl : j = 0 := by omega
                 exact List.prefix_refl _
 | j, k + 1, h => by
   by_cases e:j=k+1
   · rw [e];exact List.prefix_refl _
   · rw [flatD_succ];exact (flatD_pre j k (by omega)).trans (List.prefix_append _ _)
theorem flatD_take {D:List (List Int)} (hD : ∀ x∈D,x.length=116∧Byts x) {base h u:Nat} (hb:base+h≤D.length) (hu:u≤h * 116):(flatD D base (pagesFor u)).take u=(flatD D base h).take u:=by
 have hp:pagesFor u≤h:=by unfold pagesFor;omega
 have hl:=(flatD_len hD (base:=base) (k:=pagesFor u) (by omega)).1
 obtain ⟨t,ht⟩:=flatD_pre (D:=D) (base:=base) (pagesFor u) h hp
 rw [←ht,List.take_append_of_le_length (by rw [hl];unfold pagesFor;omega)]
def RdQ (R:Except Int (Nat × List Int × List (List Int))) (w:World) (e:Ending) (w':World):Prop :=
 Below w.heap.size w w'∧match R with
  | .error er=>er ≠ 0∧e = .returned (.tuple #[.slice none 0 0,.int .i64 er])
  | .ok (_,_,L) => ∃ v,e = .returned (.tuple #[v,.int .i64 0])∧Ownv w' w.heap.size 9 v (strs L)
def strLen:Value→Nat
 | .string S=>S.size
 | _=>0
set_option maxRecDepth 100000 in
set_option maxHeartbeats 8000000 in
theorem rjread_any (w:World) (a:Option Addr) (c:Nat) (D:List (List Int)) (hs:Slv w a (strs D)) (hn:3≤D.length∧D.length≤200) (hD : ∀ x∈D,x.length=116∧Byts x) :
 Calls Tryd.prog 28 #[.slice a D.length c] w (RdQ (openJ D.length (rdD D)) w):=by
 obtain ⟨R,hR⟩ : ∃ R,R=openJ D.length (rdD D):=⟨_,rfl⟩
 rw [←hR]
 have HR:=Bx.mk hR
 have HS:=Bx.mk hs
 have HD:=Bx.mk hD
 obtain ⟨n,hne⟩ : ∃ n,n=D.length:=⟨_,rfl⟩
 rw [←hne] at hn ⊢
 have HNE:=Bx.mk hne
 obtain ⟨h,hh⟩ : ∃ h,h=(n - 1) / 2:=⟨_,rfl⟩
 have HH:Bx (h=(D.length - 1) / 2∧1≤h∧h≤99∧2 * h+1≤n):=⟨by rw [←hne];omega⟩
 obtain ⟨n1,hn1⟩ : ∃ n1,n1=n - 1:=⟨_,rfl⟩
 have e1:IntKind.i64.wrap ((n:Int) - 1)=(n1:Int):=by rw [IntWalk.i64_in _ (by omega)];omega
 have d1:((n1:Int)).tdiv 2=(h:Int):=by rw [Int.tdiv_eq_ediv_of_nonneg (by omega)];omega
 have d2:(n1:Int) / 2=(h:Int):=by omega
 have d3:IntKind.i64.wrap (h:Int)=(h:Int):=IntWalk.i64_in _ (by omega)
 have t0:decide ((h:Int)<1)=false:=by simp;omega
 have t0b:decide (h<1)=false:=by simp;omega
 have b0:(0:Int)<(n:Int):=by omega
 have b00:(0:Int)≤0:=by omega
 obtain ⟨hd,hhd⟩ : ∃ hd,D[0]? = some hd:=⟨_,List.getElem?_eq_getElem (by omega)⟩
 obtain ⟨ab,ao,rfl,hc0⟩:=hs 0 _ (strs_at hhd)
 rw [Nat.add_zero] at hc0
 obtain ⟨hdl,hdb⟩:=hD hd (List.mem_of_getElem? hhd)
 have HHD:Bx ((rdD D 0).1=hd∧(rdD D 0).2=0):=⟨by unfold rdD;rw [List.getD_eq_getElem?_getD,hhd];exact ⟨rfl,rfl⟩⟩
 have HDL:=Bx.mk hdl
 have HDB:=Bx.mk hdb
 obtain ⟨x0,hx0⟩ : ∃ x0,hd[0]? = some x0:=⟨_,List.getElem?_eq_getElem (by omega)⟩
 have hxb:=hdb x0 (List.mem_of_getElem? hx0)
 obtain ⟨hk2,hget⟩:=str_get hdb hx0
 obtain ⟨bank,hbk⟩ : ∃ bank,bank=hBank hd:=⟨_,rfl⟩
 have hxk:x0=(bank:Int):=by rw [hbk];unfold hBank;rw [List.getD_eq_getElem?_getD,hx0];simp;omega
 subst hxk
 have HBK:=Bx.mk hbk
 have hb255:bank≤255:=by omega
 have hsz:(strOfNums hd).size=116:=by rw [strOfNums_size];exact hdl
 have hx8:IntKind.i64.wrap (bank:Int)=(bank:Int):=IntWalk.i64_in _ (by omega)
 have hex1:(strOfNums hd).extract 1 5=strOfNums ((hd.drop 1).take 4):=by rw [str_extract]
 have hex2:(strOfNums hd).extract 5 9=strOfNums ((hd.drop 5).take 4):=by rw [str_extract]
 have hnm1:=Bx.mk fun W=>rnumber_any ((hd.drop 1).take 4) (fun x hx=>hdb x (List.mem_of_mem_drop (List.mem_of_mem_take hx))) (by rw [List.length_take];omega) W
 have hnm2:=Bx.mk fun W=>rnumber_any ((hd.drop 5).take 4) (fun x hx=>hdb x (List.mem_of_mem_drop (List.mem_of_mem_take hx))) (by rw [List.length_take];omega) W
 obtain ⟨u,hu⟩ : ∃ u,u=hUsed hd:=⟨_,rfl⟩
 obtain ⟨ct,hct⟩ : ∃ ct,ct=hCnt hd:=⟨_,rfl⟩
 have HU:=Bx.mk hu
 have HCT:=Bx.mk hct
 rw [show numK ((hd.drop 1).take 4)=u from hu.symm] at hnm1
 rw [show numK ((hd.drop 5).take 4)=ct from hct.symm] at hnm2
 have HGT:=Bx.mk fun (k:Nat) (y:Int) (hy:hd[k]? = some y)=>str_get hdb hy
 generalize hHD:strOfNums hd=HDs at *
 generalize strOfNums ((hd.drop 1).take 4)=S15 at *
 generalize strOfNums ((hd.drop 5).take 4)=S59 at *
 clear hs hR hD hne hn hh hn1 hhd hdl hdb hx0 hbk hxb hu hct hHD
 go_enter Tryd.func28,Tryd.ntmps28
 go_upto_region 7 with (go_at_call 49;refine (hnm1.out _).mono ?_;rintro _ wq ⟨rfl,hq⟩;have hq2:w=wq:=hq.symm;subst hq2)
 clear e1 d1 d2 d3 t0 t0b b0 hc0 hk2 hget hx8 hex1 hnm1
 go_upto_region 8 with fail
 go_loopw [2,3,8] (fun v2 v3 v8 wr => ∃ k:Nat,k≤116∧9≤k∧v2 = .slice none 0 0∧v3 = .int .i64 0∧v8 = .int .i64 k∧wr=w∧Bx (∀ j y,9≤j→j<k→hd[j]? = some y→y=0)) (fun _ _ i _=>116 - (intOf i).toNat)
 case atStart=>exact ⟨9,by decide,Nat.le_refl _,rfl,rfl,rfl,rfl,⟨fun j y h1 h2=>by omega⟩⟩
 case round =>
  obtain ⟨k,hk,h9,rfl,rfl,rfl,hwr,HZ⟩:=hrel
  have hw2:w=wr:=hwr.symm
  subst hw2
  by_cases hlt:k<116
  · have t0:decide ((k:Int)<116)=true:=by simp;omega
    have t0b:decide (k<116)=true:=by simpa using hlt
    obtain ⟨y,hy⟩ : ∃ y,hd[k]? = some y:=⟨_,List.getElem?_eq_getElem (by rw [HDL.out];exact hlt)⟩
    obtain ⟨hk3,hget3⟩:=HGT.out k y hy
    have hyb:=HDB.out y (List.mem_of_getElem? hy)
    have Hlt:=Bx.mk (And.intro hlt h9)
    have b1:(0:Int)≤(k:Int):=by omega
    have b2:(k:Int)<116:=by omega
    have Hy:=Bx.mk hy
    clear hy hlt h9
    by_cases hy0:y=0
    · have n1:(y != 0)=false:=by simp [hy0]
      have HZ2:Bx (∀ j y,9≤j→j<k+1→hd[j]? = some y→y=0):=⟨fun j z h1 h2 h3=>by
       by_cases e:j=k
       · subst e;rw [Hy.out] at h3;rw [←Option.some.inj h3];exact hy0
       · exact HZ.out j z h1 (by omega) h3⟩
      clear hy0
      go_wp2_with fail
      go_roundw
      case rel=>exact ⟨k+1,by have:=Hlt.out;omega,by have:=Hlt.out;omega,rfl,rfl,by go_num,by first | rfl | trivial,HZ2⟩
      case measure=>have:=Hlt.out;simp [intOf];omega
    · have n1:(y != 0)=true:=by simpa using hy0
      have HE:Bx (R = .error 7):=⟨by
       rw [HR.out]
       refine openJ_bad (by have:=HH.out;omega) HHD.out.2 (.inr (.inr fun hz=>?_))
       rw [HHD.out.1] at hz
       refine hy0 (hz y (List.mem_iff_getElem?.2 ⟨k - 9,?_⟩))
       rw [List.getElem?_drop,show 9+(k - 9)=k by have:=Hlt.out;omega]
       exact Hy.out⟩
      clear hy0
      go_wp2_with fail
      go_ret2
      show RdQ R w _ _
      rw [HE.out]
      exact ⟨Below.refl _ _,by decide,rfl⟩
  · have hkI:(k:Int)=116:=by omega
    obtain hk116:k=116:=by omega
    rw [hkI]
    have t0:decide ((116:Int)<116)=false:=by decide
    have HZA:Bx (∀ x∈hd.drop 9,x=0):=⟨fun x hx=>by
     obtain ⟨j,hj⟩:=List.mem_iff_getElem?.1 hx
     have hl:=(List.getElem?_eq_some_iff.1 hj).1
     rw [List.length_drop,HDL.out] at hl
     rw [List.getElem?_drop] at hj
     exact HZ.out (9+j) x (by omega) (by rw [hk116];omega) hj⟩
    clear HZ HGT hlt h9 hk hkI hk116
    go_upto_region 12 with fail
    clear t0
    have hh:=HH.out
    obtain ⟨h6,hh6⟩ : ∃ h6,h6=h * 116:=⟨_,rfl⟩
    have ec:IntKind.i64.wrap ((h:Int) * 116)=(h6:Int):=by rw [IntWalk.i64_in _ (by omega)];omega
    have HH6:=Bx.mk hh6
    clear hh6
    have hcase:(decide ((bank:Int) > 1)=true∧1<bank)∨(decide ((bank:Int) > 1)=false∧decide ((u:Int) > (h6:Int))=true∧bank≤1∧h6<u)∨(decide ((bank:Int) > 1)=false∧decide ((u:Int) > (h6:Int))=false∧bank≤1∧u≤h6):=by
     by_cases h1:1<bank
     · exact .inl ⟨by simp;omega,h1⟩
     · by_cases h2:h6<u
       · exact .inr (.inl ⟨by simp;omega,by simp;omega,by omega,h2⟩)
       · exact .inr (.inr ⟨by simp;omega,by simp;omega,by omega,by omega⟩)
    clear hh
    rcases hcase with ⟨q1,hbk⟩ | ⟨q1,q2,hb1,hu6⟩ | ⟨q1,q2,hb1,hu6⟩
    · have HE:Bx (R = .error 7):=⟨by
       rw [HR.out]
       refine openJ_bad (by have:=HH.out;omega) HHD.out.2 (.inl ?_)
       rw [HHD.out.1,←HBK.out];exact hbk⟩
      have q1b:decide ((1:Int)<(bank:Int))=true:=q1
      have q1c:decide (1<bank)=true:=by simpa using hbk
      clear hbk
      go_wp2_with fail
      go_ret2
      show RdQ R w _ _
      rw [HE.out]
      exact ⟨Below.refl _ _,by decide,rfl⟩
    · have HE:Bx (R = .error 7):=⟨by
       rw [HR.out]
       refine openJ_bad (by have:=HH.out;omega) HHD.out.2 (.inr (.inl ?_))
       rw [HHD.out.1,←HU.out,←HH.out.1,←HH6.out];exact hu6⟩
      have q1b:decide ((1:Int)<(bank:Int))=false:=q1
      have q1c:decide (1<bank)=false:=by simp;omega
      have q2b:decide ((h6:Int)<(u:Int))=true:=q2
      have q2c:decide (h6<u)=true:=by simpa using hu6
      clear hb1 hu6
      go_wp2_with fail
      go_ret2
      show RdQ R w _ _
      rw [HE.out]
      exact ⟨Below.refl _ _,by decide,rfl⟩
    have HNB:Bx (¬headBad ((D.length - 1) / 2) (rdD D 0).1):=⟨by
     rw [HHD.out.1]
     rintro (hx | hx | hx)
     · rw [←HBK.out] at hx;omega
     · rw [←HU.out,←HH.out.1,←HH6.out] at hx;omega
     · exact hx HZA.out⟩
    have q1b:decide ((1:Int)<(bank:Int))=false:=q1
    have q1c:decide (1<bank)=false:=by simp;omega
    have q2b:decide ((h6:Int)<(u:Int))=false:=q2
    have q2c:decide (h6<u)=false:=by simp;omega
    have HB16:Bx (bank≤1∧u≤h6):=⟨hb1,hu6⟩
    clear hb1 hu6 HZA
    go_upto_region 15 with fail
    clear q1 q2 q1b q1c q2b q2c ec
    obtain ⟨bh,hbh⟩ : ∃ bh,bh=bank * h:=⟨_,rfl⟩
    have hbhl:bh≤h:=by
     have h1:=HB16.out.1
     have:bank * h≤1 * h:=Nat.mul_le_mul_right _ h1
     omega
    have ebh:IntKind.i64.wrap ((bank:Int) * (h:Int))=(bh:Int):=by
     have:=HH.out
     rw [IntWalk.i64_in _ (by rw [←Int.natCast_mul,←hbh];omega),←Int.natCast_mul,hbh]
    have HBH:Bx (bh=bank * h∧bh≤h):=⟨hbh,hbhl⟩
    clear hbh hbhl
    go_upto_region 16 with fail
    go_loopw [9,10] (fun v9 v10 wr => ∃ k:Nat,k≤h∧v9 = .string (strOfNums (flatD D (1+bh) k))∧v10 = .int .i64 ((k+1:Nat):Int)∧wr=w) (fun _ i _=>h+1 - (intOf i).toNat)
    case atStart=>exact ⟨0,Nat.zero_le _,rfl,rfl,rfl⟩
    case round =>
     obtain ⟨k,hk,rfl,rfl,hwr⟩:=hrel
     have hw2:w=wr:=hwr.symm
     subst hw2
     obtain ⟨k1,hk1⟩ : ∃ k1,k1=k+1:=⟨_,rfl⟩
     rw [←hk1]
     have hh:=HH.out
     have hbh:=HBH.out
     by_cases hlt:k<h
     · have t0:decide ((k1:Int)≤(h:Int))=true:=by simp;omega
       have t0b:decide (k1≤h)=true:=by simp;omega
       obtain ⟨p,hp⟩ : ∃ p,p=bh+k1:=⟨_,rfl⟩
       have ep:IntKind.i64.wrap ((bh:Int)+(k1:Int))=(p:Int):=by rw [IntWalk.i64_in _ (by omega)];omega
       have hpn:p<n:=by omega
       obtain ⟨x,hx⟩ : ∃ x,D[p]? = some x:=⟨_,List.getElem?_eq_getElem (by rw [←HNE.out];exact hpn)⟩
       obtain ⟨b',o',e',hc⟩:=HS.out p _ (strs_at hx)
       simp only [Option.some.injEq,Addr.mk.injEq,and_true] at e'
       obtain ⟨rfl,rfl⟩:=e'
       have hxl:=(HD.out x (List.mem_of_getElem? hx)).1
       have z1:(strOfNums x).size=116:=by rw [strOfNums_size];exact hxl
       have hfl:=(flatD_len HD.out (base:=1+bh) (k:=k) (by rw [←HNE.out];omega)).1
       obtain ⟨f,hf⟩ : ∃ f,f=116 * k:=⟨_,rfl⟩
       have z2:(strOfNums (flatD D (1+bh) k)).size=f:=by rw [strOfNums_size,hfl,hf]
       have ha:strOfNums (flatD D (1+bh) k)++strOfNums x=strOfNums (flatD D (1+bh) (k+1)):=by
        rw [str_append,flatD_succ]
        congr 2
        rw [List.getD_eq_getElem?_getD,show 1+bh+k=p by omega,hx];rfl
       have hsm:f+116≤20000:=by omega
       have b1:(0:Int)≤(p:Int):=by omega
       have b2:(p:Int)<(n:Int):=by omega
       have e2:IntKind.i64.wrap ((k1:Int)+1)=((k1+1:Nat):Int):=by rw [IntWalk.i64_in _ (by omega)];omega
       have HK1:=Bx.mk (And.intro hk1 hlt)
       obtain ⟨S3,hS3⟩ : ∃ S3,S3=strOfNums (flatD D (1+bh) (k+1)):=⟨_,rfl⟩
       rw [←hS3] at ha
       have HS3:=Bx.mk hS3
       clear hS3
       generalize strOfNums (flatD D (1+bh) k)=S1 at *
       generalize strOfNums x=S2 at *
       clear hh hbh hlt hp hpn hx hxl hfl hf hk1
       go_wp2_with fail
       go_roundw
       case rel=>exact ⟨k+1,by have:=HK1.out;omega,by rw [HS3.out],by rw [HK1.out.1];rfl,by first | rfl | trivial⟩
       case measure=>have:=HK1.out;simp [intOf];omega
     · have hkh:h=k:=by omega
       subst hkh
       have t0:decide ((k1:Int)≤(h:Int))=false:=by simp;omega
       have t0b:decide (k1≤h)=false:=by simp;omega
       obtain ⟨fl,hfl⟩ : ∃ fl,fl=flatD D (1+bh) h:=⟨_,rfl⟩
       obtain ⟨hl1,hl2⟩:=flatD_len HD.out (base:=1+bh) (k:=h) (by rw [←HNE.out];omega)
       rw [←hfl] at hl1 hl2 ⊢
       obtain ⟨f,hf⟩ : ∃ f,f=116 * h:=⟨_,rfl⟩
       have z2:(strOfNums fl).size=f:=by rw [strOfNums_size,hl1,hf]
       obtain ⟨s0,hs0⟩ : ∃ s0,s0=fl.take u:=⟨_,rfl⟩
       have hex:(strOfNums fl).extract 0 u=strOfNums s0:=by rw [hs0,str_extract];rfl
       have b1:(0:Int)≤(u:Int):=by omega
       have b2:(u:Int)≤(f:Int):=by have:=HB16.out.2;have:=HH6.out;omega
       have HS0:Bx (Byts s0∧s0.length≤1000000):=⟨fun x hx=>hl2 x (by rw [hs0] at hx;exact List.mem_of_mem_take hx),by rw [hs0,List.length_take,hl1];omega⟩
       have HGAT:Bx (gatJ (rdD D) (1+hBank (rdD D 0).1 * ((D.length - 1) / 2)) (pagesFor (hUsed (rdD D 0).1)) = .ok (flatD D (1+bh) (pagesFor u))∧(flatD D (1+bh) (pagesFor u)).take (hUsed (rdD D 0).1)=s0):=⟨by
        rw [HHD.out.1,←HBK.out,←HU.out,←HH.out.1,←HBH.out.1]
        exact ⟨gatJ_flat _ _ _,by rw [hs0,hfl];exact flatD_take HD.out (by rw [←HNE.out];omega) (by have:=HB16.out.2;have:=HH6.out;omega)⟩⟩
       have HSM:=HH.out
       have HRB:Bx (¬(D.length - 1) / 2<1):=⟨by omega⟩
       clear hfl hl1 hl2 hf hs0 hh hbh hk hlt hk1 HSM
       generalize strOfNums fl=FL at *
       go_upto_region 21 with fail
       clear t0 t0b z2 hex b1 b2 ebh
       go_loopw [2,3,9,11] (fun v2 v3 v9 v11 wr => ∃ (rest:List Int) (done:List (List Int)) (q:Value),v2 = .slice none 0 0∧v3 = .int .i64 0∧v9 = .string (strOfNums rest)∧q=v11∧Bx (CutL s0 rest done)∧Bx (Ownv wr w.heap.size 9 q (strs done))∧Bx (Below w.heap.size w wr)) (fun _ _ v9 _ _=>strLen v9)
       case atStart=>exact ⟨s0,[],_,rfl,rfl,rfl,rfl,⟨CutL.start HS0.out.1 HS0.out.2⟩,⟨Ownv.nil _ _ _⟩,⟨Below.refl _ _⟩⟩
       case round =>
        obtain ⟨rest,done,q,rfl,rfl,rfl,rfl,HC,HO,HB⟩:=hrel
        obtain ⟨rl,hrl⟩ : ∃ rl,rl=rest.length:=⟨_,rfl⟩
        have zr:(strOfNums rest).size=rl:=by rw [strOfNums_size,hrl]
        have hrl6:rl≤1000000∧done.length≤1000000:=by have:=HC.out.2.2;omega
        have HRL:=Bx.mk hrl
        by_cases h0:rest=[]
        · subst h0
          have hr0:rl=0:=hrl
          have t0:decide ((rl:Int) > 0)=false:=by simp;omega
          have t0b:decide ((0:Int)<(rl:Int))=false:=by simp;omega
          have t0c:decide (0<rl)=false:=by simp;omega
          obtain ⟨qa,qc,rfl,hsq⟩:=HO.out.form
          have HDN:=Bx.mk HC.out.done
          obtain ⟨dl,hdl⟩ : ∃ dl,dl=done.length:=⟨_,rfl⟩
          have HOF:=Bx.mk HO.out
          rw [strs_length,←hdl] at HOF ⊢
          by_cases hct:dl=ct
          · have n1:((dl:Int) != (ct:Int))=false:=by simp [hct]
            have HE:Bx (R = .ok (hBank (rdD D 0).1,s0,done)):=⟨by
             have h1:=openJ_ok HRB.out HHD.out.2 HNB.out HGAT.out.1 (by rw [HGAT.out.2];exact HDN.out) (by rw [HHD.out.1,←HCT.out,←hdl];exact hct)
             rw [HR.out,h1,HGAT.out.2]⟩
            clear hct hrl hr0 hdl hsq HO
            go_upto_region 29 with fail
            clear t0 t0b t0c zr
            go_wp2_with fail
            refine (hnm2.out _).mono ?_
            rintro _ wq ⟨rfl,hq⟩
            have hq2:wr=wq:=hq.symm
            subst hq2
            go_wp2_with fail
            go_ret2
            show RdQ R w _ _
            rw [HE.out]
            exact ⟨HB.out,_,rfl,HOF.out⟩
          · have n1:((dl:Int) != (ct:Int))=true:=by simp;omega
            have HE:Bx (R = .error 7):=⟨by
             rw [HR.out]
             exact openJ_cnt HRB.out HHD.out.2 HNB.out HGAT.out.1 (by rw [HGAT.out.2];exact HDN.out) (by rw [HHD.out.1,←HCT.out,←hdl];exact hct)⟩
            clear hct hrl hr0 hdl hsq HO
            go_upto_region 29 with fail
            clear t0 t0b t0c zr
            go_wp2_with fail
            refine (hnm2.out _).mono ?_
            rintro _ wq ⟨rfl,hq⟩
            have hq2:wr=wq:=hq.symm
            subst hq2
            go_wp2_with fail
            go_ret2
            show RdQ R w _ _
            rw [HE.out]
            exact ⟨HB.out,by decide,rfl⟩
        · have hpos:0<rl:=by rw [hrl];exact List.length_pos_iff.2 h0
          have t0:decide ((rl:Int) > 0)=true:=by simp;omega
          have t0b:decide ((0:Int)<(rl:Int))=true:=by simp;omega
          have t0c:decide (0<rl)=true:=by simpa using hpos
          have H0:=Bx.mk h0
          clear h0 hpos
          have HBAD:Bx (nextS rest=none→R = .error 7):=⟨fun hn=>by
           rw [HR.out]
           exact openJ_cut HRB.out HHD.out.2 HNB.out HGAT.out.1 (by rw [HGAT.out.2];exact HC.out.fail H0.out hn)⟩
          by_cases h2:rl<2
          · have t2:decide ((rl:Int)<2)=true:=by simp;omega
            have t2b:decide (rl<2)=true:=by simpa using h2
            have HE:Bx (R = .error 7):=⟨HBAD.out (by unfold nextS;rw [if_pos (by rw [←hrl];exact h2)])⟩
            clear h2 hrl
            go_wp2_with fail
            go_ret2
            show RdQ R w _ _
            rw [HE.out]
            exact ⟨HB.out,by decide,rfl⟩
          · have t2:decide ((rl:Int)<2)=false:=by simp;omega
            have t2b:decide (rl<2)=false:=by simpa using h2
            have hbyt:=HC.out.2.1
            have hex:(strOfNums rest).extract 0 2=strOfNums (rest.take 2):=by rw [str_extract];rfl
            have hnm:=Bx.mk fun W=>rnumber_any (rest.take 2) (fun x hx=>hbyt x (List.mem_of_mem_take hx)) (by rw [List.length_take];omega) W
            obtain ⟨m,hm⟩ : ∃ m,m=numK (rest.take 2):=⟨_,rfl⟩
            rw [←hm] at hnm
            have hnx:nextS rest=if 8000<m∨rl<2+m then none else some ((rest.drop 2).take m,rest.drop (2+m)):=by
             unfold nextS
             rw [if_neg (by rw [←hrl];exact h2),←hm,←hrl]
            have HNX:=Bx.mk hnx
            have b2:(2:Int)≤(rl:Int):=by omega
            have h22:2≤rl:=by omega
            clear hnx hm hbyt h2 hrl
            have S2x:Bx True:=⟨trivial⟩
            obtain ⟨S2,hS2⟩ : ∃ S2,S2=strOfNums (rest.take 2):=⟨_,rfl⟩
            rw [←hS2] at hex hnm
            clear hS2
            go_upto_region 25 with (go_at_call 49;refine (hnm.out _).mono ?_;rintro _ wq ⟨rfl,hq⟩;have hq2:wr=wq:=hq.symm;subst hq2)
            clear t2 t2b hex hnm t0 t0b t0c
            obtain ⟨m2,hm2⟩ : ∃ m2,m2=2+m:=⟨_,rfl⟩
            have hcs:(8000<m)∨(m≤8000∧rl<m2)∨(m≤8000∧m2≤rl):=by omega
            rcases hcs with h1 | ⟨h1,h3⟩ | ⟨h1,h3⟩
            · have t1:decide ((m:Int) > 8000)=true:=by simp;omega
              have t1b:decide (8000<m)=true:=by simpa using h1
              have t1c:decide ((8000:Int)<(m:Int))=true:=t1
              have HE:Bx (R = .error 7):=⟨HBAD.out (by rw [HNX.out,if_pos (.inl h1)])⟩
              clear h1
              go_wp2_with fail
              go_ret2
              show RdQ R w _ _
              rw [HE.out]
              exact ⟨HB.out,by decide,rfl⟩
            · have t1:decide ((m:Int) > 8000)=false:=by simp;omega
              have t1b:decide (8000<m)=false:=by simp;omega
              have t1c:decide ((8000:Int)<(m:Int))=false:=t1
              have e1:IntKind.i64.wrap (2+(m:Int))=(m2:Int):=by rw [IntWalk.i64_in _ (by omega)];omega
              have t3:decide ((rl:Int)<(m2:Int))=true:=by simp;omega
              have t3b:decide (rl<m2)=true:=by simpa using h3
              have HE:Bx (R = .error 7):=⟨HBAD.out (by rw [HNX.out,if_pos (.inr (by omega))])⟩
              clear h1 h3 hm2
              go_wp2_with fail
              go_ret2
              show RdQ R w _ _
              rw [HE.out]
              exact ⟨HB.out,by decide,rfl⟩
            · have t1:decide ((m:Int) > 8000)=false:=by simp;omega
              have t1b:decide (8000<m)=false:=by simp;omega
              have t1c:decide ((8000:Int)<(m:Int))=false:=t1
              have e1:IntKind.i64.wrap (2+(m:Int))=(m2:Int):=by rw [IntWalk.i64_in _ (by omega)];omega
              have t3:decide ((rl:Int)<(m2:Int))=false:=by simp;omega
              have t3b:decide (rl<m2)=false:=by simp;omega
              obtain ⟨r,hr⟩ : ∃ r,r=(rest.drop 2).take m:=⟨_,rfl⟩
              obtain ⟨rest2,hr2⟩ : ∃ rest2,rest2=rest.drop m2:=⟨_,rfl⟩
              have hns:nextS rest=some (r,rest2):=by rw [HNX.out,if_neg (by omega),hr,hr2,hm2]
              have HCS:=Bx.mk (HC.out.step H0.out hns)
              have hlt2:=nextS_lt hns
              have hex2:(strOfNums rest).extract 2 m2=strOfNums r:=by rw [str_extract,hr];congr 2;omega
              have hex3:(strOfNums rest).extract m2 rl=strOfNums rest2:=by rw [str_extract,hr2,List.take_of_length_le (by rw [List.length_drop,←HRL.out];exact Nat.le_refl _)]
              have b3:(2:Int)≤(m2:Int):=by omega
              have b4:(m2:Int)≤(rl:Int):=by omega
              have b5:(0:Int)≤(m2:Int):=by omega
              have HLT:Bx ((strOfNums rest2).size<(strOfNums rest).size):=⟨by rw [strOfNums_size,strOfNums_size];exact hlt2⟩
              obtain ⟨S6,hS6⟩ : ∃ S6,S6=strOfNums rest:=⟨_,rfl⟩
              have HS6:=Bx.mk hS6
              rw [←hS6] at hex2 hex3 zr ⊢
              have hdn:done.length≤1000000:=hrl6.2
              have hown:=HO.out
              have hle:=HB.out.size
              have hlt3:(strs done).length≤1000000000:=by rw [strs_length];omega
              clear h1 h3 hm2 hr hr2 hns hlt2 HBAD HNX hS6 hrl6 h22
              go_upto_region 27 with fail
              clear t1 t1b t1c t3 t3b
              go_upto_region 28 with (first
               | (at_builtin
                  refine wpList_append_val rfl _ _ 30 rfl 9 (.string ByteArray.empty) 16 (by omega) Tryd.underlying30 (by kernel_rfl) rfl w.heap.size q (strs done) rfl (hown.below ((Below.refl _ _).alloc (Nat.le_refl _) _)) (.string (strOfNums r)) rfl ⟨wr.heap.size,0,none⟩ 1 rfl (cell_new _ _ _) hlt3 (by simp;omega) ?_
                  intro v' w6 g1 g2 _))
              have HB6:=Bx.mk ((HB.out.alloc hle (.cells #[.string (strOfNums r)] 9)).grown g2 (by simp;omega) fun g hg=>(own_at hown g hg).1)
              rw [←strs_snoc] at g1
              have HG1:=Bx.mk g1
              clear g1 g2 hown hle hlt3 HO HB HC
              go_wp2_with fail
              go_roundw
              case rel=>exact ⟨rest2,done++[r],_,rfl,rfl,rfl,rfl,HCS,HG1,HB6⟩
              case measure=>simp only [strLen];exact HLT.out
end
section
open Go.RowKit Go.Sort Go.Maps
theorem datD_zero {n i:Nat} (h:17+i<n):datD (List.replicate n (zerosP 128)) i=zerosP 116:=by
 unfold datD
 rw [List.getD_eq_getElem?_getD,List.getElem?_replicate,if_pos h]
 show dataP (zerosP 128)=zerosP 116
 decide
theorem InvJ.start {nn:Nat} (h1:3≤nn) (h2:nn≤200):InvJ nn ((nn - 1) / 2) 0 [] [] (List.replicate (nn+17) (zerosP 128)):=by
 refine ⟨?_,fun j hj=>absurd hj (by simp),rfl,fun r hr=>(by cases hr),Nat.zero_le _,Nat.zero_le _,rfl,by omega,h2⟩
 rw [datD_zero (by omega)]
 decide
set_option maxRecDepth 100000 in
set_option maxHeartbeats 4000000 in
theorem begin_yes (w:World) (n:Nat) (h1:20≤n) (h2:n≤120) :
 Calls Tryd.prog 7 #[.int .i64 (n:Int)] w fun e w' => ∃ dp g mb pp jp bv,e = .returned (.tuple #[.pointer (some ⟨dp,0,none⟩),.pointer (some ⟨jp,0,none⟩),.bool true])∧JD (fun k=>k<w.heap.size) w.heap.size w' dp g mb n pp jp (n - 17) ((n - 17 - 1) / 2) 0 bv 0 20 (List.replicate n (zerosP 128)) [] []∧Below w.heap.size w w':=by
 have hnew:=Bx.mk (new_ok w n (by omega) h2)
 have HN:=Bx.mk (And.intro h1 h2)
 clear h1 h2
 go_enter Tryd.func7,Tryd.ntmps7
 go_upto_region 2 with (go_at_call 23;refine hnew.out.mono ?_;rintro _ w1 ⟨dp,g,mb,rfl,hd1,l1,l2,l3,hb1⟩)
 rw [mk_q] at hd1
 have hin : ∀ k,In3 dp g mb k→w.heap.size≤k:=fun k hk=>by rcases hk with rfl | rfl | rfl <;> assumption
 have hn:=HN.out
 have hpv:PInv (n - 17+17) 0 (List.replicate n (zerosP 128)):=by rw [show n - 17+17=n by omega];exact PInv.start (by omega)
 have hij:InvJ (n - 17) ((n - 17 - 1) / 2) 0 [] [] (List.replicate n (zerosP 128)):=by
  have:=InvJ.start (nn:=n - 17) (by omega) (by omega)
  rwa [show n - 17+17=n by omega] at this
 have hop:=Bx.mk (reopen_any (F:=fun k=>k<w.heap.size) hd1 hin (fun k hk h=>by have:=hin k hk;omega) (fun k hk=>Nat.lt_of_lt_of_le hk hb1.size) hpv hij (fun r hr=>by cases hr) (by decide) (by decide) hb1.size)
 have HIN:=Bx.mk hin
 have HB1:=Bx.mk hb1
 clear hd1 l1 l2 l3 hb1 hin hn hpv hij hnew
 go_upto_region 5 with (go_at_call 15;refine hop.out.mono ?_;rintro _ w2 ⟨pq,jq,bq,rfl,hJ,hc⟩)
 have HJ:=Bx.mk hJ
 have HC:=Bx.mk (HB1.out.trans (hc.below HB1.out.size fun k hk hS=>by have:=HIN.out k hS;omega))
 clear hJ hc hop
 go_wp2_with fail
 go_ret3
 exact ⟨dp,g,mb,pq,jq,bq,rfl,HJ.out,HC.out⟩
set_option maxRecDepth 100000 in
set_option maxHeartbeats 4000000 in
theorem begin_19 (w:World) :
 Calls Tryd.prog 7 #[.int .i64 19] w fun e w' => ∃ dp,e = .returned (.tuple #[.pointer (some ⟨dp,0,none⟩),.pointer none,.bool false])∧Below w.heap.size w w':=by
 have hnew:=Bx.mk (new_ok w 19 (by omega) (by omega))
 go_enter Tryd.func7,Tryd.ntmps7
 go_upto_region 2 with (go_at_call 23;refine hnew.out.mono ?_;rintro _ w1 ⟨dp,g,mb,rfl,hd1,l1,l2,l3,hb1⟩)
 rw [mk_q] at hd1
 have hin : ∀ k,In3 dp g mb k→w.heap.size≤k:=fun k hk=>by rcases hk with rfl | rfl | rfl <;> assumption
 have hpv:PInv 19 0 (List.replicate 19 (zerosP 128)):=PInv.start (by omega)
 have hrep:=replay_calm hpv (q_ok hd1.ok) (by decide) (by decide)
 have hop:=Bx.mk (opened_any hd1 hin (by rw [q_len];simp) rfl (by decide) (d':=qDk (List.replicate 19 (zerosP 128))) (by rw [now_q];exact hrep) hb1.size (n:=2) (by rw [q_len];simp) (by decide))
 have HIN:=Bx.mk hin
 have HB1:=Bx.mk hb1
 clear hd1 l1 l2 l3 hb1 hin hpv hnew hrep
 go_upto_region 5 with (go_at_call 15;refine hop.out.mono ?_;rintro e2 w2 ⟨pq,bq,wm,hst,-,hc,hJ⟩;unfold JOpen at hJ;rw [openJ_small (by decide)] at hJ;obtain ⟨hb2,-,rfl⟩:=hJ)
 have HC:=Bx.mk ((HB1.out.trans (hc.below HB1.out.size fun k hk hS=>by have:=HIN.out k hS;omega)).trans (hb2.mono (Nat.le_trans HB1.out.size hc.size)))
 clear hst hc hb2 hop
 go_wp2_with fail
 go_ret3
 exact ⟨dp,rfl,HC.out⟩
end
section
open Go.RowKit Go.Sort Go.Maps
set_option maxRecDepth 100000 in
set_option maxHeartbeats 1000000 in
theorem jroom_any (w:World) (jp pp h bank:Nat) (s:List Int) (rv:Value) (cl:Bool) (hj:JS w jp pp h bank s rv cl) (hh:h≤1000) (hs:s.length≤h * 116) :
 Calls Tryd.prog 22 #[.pointer (some ⟨jp,0,none⟩)] w fun e w'=>e = .returned (.int .i64 ((h * 116 - s.length:Nat):Int))∧Below w.heap.size w w':=by
 have HJ:=Bx.mk fun W (hb:Below w.heap.size w W)=>hj.later hb
 obtain ⟨a,ha⟩ : ∃ a,a=h * 116:=⟨_,rfl⟩
 obtain ⟨sl,hsl⟩ : ∃ sl,sl=s.length:=⟨_,rfl⟩
 have hsz:=Bx.mk fun W (hb:Below w.heap.size w W)=>((jsize_any W jp pp h bank s rv cl (hj.later hb) hh).mono fun e w' h=>(⟨by rw [h.1,ha],h.2 ▸ Below.refl _ _⟩:e = .returned (.int .i64 (a:Int))∧Below W.heap.size W w'))
 have hln:(strOfNums s).size=sl:=by rw [strOfNums_size,hsl]
 have e1:IntKind.i64.wrap ((a:Int) - (sl:Int))=((a - sl:Nat):Int):=by rw [IntWalk.i64_in _ (by omega)];omega
 rw [←ha,←hsl]
 generalize a - sl=rm at *
 obtain ⟨S,hS⟩ : ∃ S,S=strOfNums s:=⟨_,rfl⟩
 rw [←hS] at hln
 have HS:=Bx.mk hS
 clear hj hh hs ha hsl hS
 go_enter Tryd.func22,Tryd.ntmps22
 go_upto_region 1 with fail
 refine wp_region_relT 8 (fun ii v w'=>match ii with
  | 0=>v = .pointer (some ⟨jp,0,none⟩)
  | 1=>v = .int .i64 (a:Int)
  | 2=>v = .pointer (some ⟨jp,0,none⟩)
  | 3=>v = .pointer (some ⟨jp,0,none⟩)
  | 4=>v = .pointer (some ⟨jp,3,none⟩)
  | 5=>v = .string S
  | 6=>v = .int .i64 (sl:Int)
  | _=>v = .int .i64 (rm:Int)) (by kernel_rfl) (by kernel_rfl) 11 (by kernel_rfl) (by rfl) ?_ ?_ ?_
 · intro ii hi v u1 u2 hb h
   match ii,hi with
   | 0,_=>exact h
   | 1,_=>exact h
   | 2,_=>exact h
   | 3,_=>exact h
   | 4,_=>exact h
   | 5,_=>exact h
   | 6,_=>exact h
   | 7,_=>exact h
 · intro ii o hi ho ρ wx hb hc1 hc2 hc3 hk
   match ii,hi with
   | 0, _ =>
     obtain rfl:=Option.some.inj ho
     have g0:ρ (.tmp 0) = .pointer (some ⟨jp,0,none⟩):=hk 0 (by simp [Op.operands,Call.operands])
     clear hk hb HJ hsz
     go_simp
     exact Below.refl _ _
   | 1, _ =>
     obtain rfl:=Option.some.inj ho
     have g0:ρ (.tmp 3) = .pointer (some ⟨jp,0,none⟩):=hk 3 (by simp [Op.operands,Call.operands])
     have h4:=hsz.out wx hb
     have H4:=Bx.mk h4
     clear h4
     clear hk hb HJ hsz
     go_simp
     all_goals exact H4.out
   | 2, _ =>
     obtain rfl:=Option.some.inj ho
     have g0:ρ (.tmp 0) = .pointer (some ⟨jp,0,none⟩):=hk 0 (by simp [Op.operands,Call.operands])
     clear hk hb HJ hsz
     go_simp
     exact Below.refl _ _
   | 3, _ =>
     obtain rfl:=Option.some.inj ho
     have g0:ρ (.tmp 5) = .pointer (some ⟨jp,0,none⟩):=hk 5 (by simp [Op.operands,Call.operands])
     clear hk hb HJ hsz
     go_simp
     exact Below.refl _ _
   | 4, _ =>
     obtain rfl:=Option.some.inj ho
     have g0:ρ (.tmp 6) = .pointer (some ⟨jp,0,none⟩):=hk 6 (by simp [Op.operands,Call.operands])
     clear hk hb HJ hsz
     go_simp
     exact Below.refl _ _
   | 5, _ =>
     obtain rfl:=Option.some.inj ho
     have g0:ρ (.tmp 7) = .pointer (some ⟨jp,3,none⟩):=hk 7 (by simp [Op.operands,Call.operands])
     have z3:=Bk.cell (HJ.out wx hb) 3 rfl
     rw [←HS.out] at z3
     clear hk hb HJ hsz
     go_simp
     exact Below.refl _ _
   | 6, _ =>
     obtain rfl:=Option.some.inj ho
     have g0:ρ (.tmp 8) = .string S:=hk 8 (by simp [Op.operands,Call.operands])
     clear hk hb HJ hsz
     go_simp
     exact Below.refl _ _
   | 7, _ =>
     obtain rfl:=Option.some.inj ho
     have g0:ρ (.tmp 4) = .int .i64 (a:Int):=hk 4 (by simp [Op.operands,Call.operands])
     have g1:ρ (.tmp 9) = .int .i64 (sl:Int):=hk 9 (by simp [Op.operands,Call.operands])
     clear hk hb HJ hsz
     go_simp
     exact Below.refl _ _
 · intro vs w4 hlen hb hR
   match vs,hlen with
   | [v0, v1, v2, v3, v4, v5, v6, v7], _ =>
     have r0:v0 = .pointer (some ⟨jp,0,none⟩):=hR 0 v0 rfl
     have r1:v1 = .int .i64 (a:Int):=hR 1 v1 rfl
     have r2:v2 = .pointer (some ⟨jp,0,none⟩):=hR 2 v2 rfl
     have r3:v3 = .pointer (some ⟨jp,0,none⟩):=hR 3 v3 rfl
     have r4:v4 = .pointer (some ⟨jp,3,none⟩):=hR 4 v4 rfl
     have r5:v5 = .string S:=hR 5 v5 rfl
     have r6:v6 = .int .i64 (sl:Int):=hR 6 v6 rfl
     have r7:v7 = .int .i64 (rm:Int):=hR 7 v7 rfl
     clear hR
     subst r0 r1 r2 r3 r4 r5 r6 r7
     have HB:=Bx.mk hb
     clear hb HJ hsz
     simp only [puts,List.take_succ_cons,List.take_zero,List.drop_succ_cons,List.drop_zero,List.map_cons,List.map_nil,List.zip_cons_cons,List.zip_nil_right,List.foldl_cons,List.foldl_nil]
     simp only [Act.put,List.setIfInBounds_toArray,List.set_cons_succ,List.set_cons_zero]
     go_wp2_with fail
     go_ret
     exact ⟨rfl,HB.out⟩
end
section
open Go.RowKit Go.Sort Go.Maps
section
variable {F:Nat→Prop} {B:Nat} {W W':World} {dp g mb cap pp jp nn h bank:Nat} {bv:Value} {t m:Nat} {im:List (List Int)} {s:List Int} {L:List (List Int)}
theorem JD.len (hJ:JD F B W dp g mb cap pp jp nn h bank bv t m im s L) :
 Calls Tryd.prog 18 #[.pointer (some ⟨jp,0,none⟩)] W fun e w'=>e = .returned (.int .i64 (L.length:Int))∧Below W.heap.size W w':=by
 obtain ⟨ra,rc,hj,hs,hro⟩:=hJ.js
 exact (jlen_any W jp pp h bank s false ra L.length rc hj).mono fun e w' h=>⟨h.1,h.2 ▸ Below.refl _ _⟩
theorem JD.used (hJ:JD F B W dp g mb cap pp jp nn h bank bv t m im s L) :
 Calls Tryd.prog 21 #[.pointer (some ⟨jp,0,none⟩)] W fun e w'=>e = .returned (.int .i64 ((strmP L).length:Int))∧Below W.heap.size W w':=by
 obtain ⟨ra,rc,hj,hs,hro⟩:=hJ.js
 rw [←hJ.inj.strm]
 exact (jused_any W jp pp h bank s _ false hj).mono fun e w' h=>⟨h.1,h.2 ▸ Below.refl _ _⟩
theorem JD.room (hJ:JD F B W dp g mb cap pp jp nn h bank bv t m im s L) :
 Calls Tryd.prog 22 #[.pointer (some ⟨jp,0,none⟩)] W fun e w'=>e = .returned (.int .i64 ((h * 116 - (strmP L).length:Nat):Int))∧Below W.heap.size W w':=by
 obtain ⟨ra,rc,hj,hs,hro⟩:=hJ.js
 have h1:=hJ.small
 rw [←hJ.inj.strm]
 exact jroom_any W jp pp h bank s _ false hj (by omega) hJ.inj.fits
theorem JD.record (hJ:JD F B W dp g mb cap pp jp nn h bank bv t m im s L) (k:Int) (hk : -9223372036854775808≤k∧k≤9223372036854775807) :
 Calls Tryd.prog 17 #[.pointer (some ⟨jp,0,none⟩),.int .i64 k] W fun e w'=>e = .returned (recV L k)∧Below W.heap.size W w':=by
 obtain ⟨ra,rc,hj,hs,hro⟩:=hJ.js
 have h1:=hJ.small
 exact (jrecord_any W jp pp h bank s false ra rc L hs (by omega) hj k hk).mono fun e w' h=>⟨h.1,h.2 ▸ Below.refl _ _⟩
theorem JD.records (hJ:JD F B W dp g mb cap pp jp nn h bank bv t m im s L) :
 Calls Tryd.prog 20 #[.pointer (some ⟨jp,0,none⟩)] W fun e w' => ∃ v,e = .returned v∧Below W.heap.size W w'∧Ownv w' W.heap.size 9 v (strs L):=by
 obtain ⟨ra,rc,hj,hs,hro⟩:=hJ.js
 have h1:=hJ.small
 exact jrecords_any W jp pp h bank s false ra rc L hs (by omega) hj
end
end
section
open Go.RowKit Go.Sort Go.Maps
structure RJ (W:World) (tb size:Nat) (ra:Option Addr) (rc:Nat) (L:List (List Int)):Prop where
 bk:Bk W tb #[.int .i64 (size:Int),.slice ra L.length rc] 32
 rd:Slv W ra (strs L)
 lt : ∀ b,ra=some b→b.block<W.heap.size
theorem RJ.chg {S:Nat→Prop} {W W':World} {tb size:Nat} {ra:Option Addr} {rc:Nat} {L:List (List Int)} (h:RJ W tb size ra rc L) (hc:Chg S W W') (ht : ¬S tb) (hr : ∀ b,ra=some b → ¬S b.block):RJ W' tb size ra rc L :=
 ⟨h.bk.chg hc ht,slv_chg h.rd hc hr,fun b hb=>Nat.lt_of_lt_of_le (h.lt b hb) hc.size⟩
theorem RJ.later {W W':World} {tb size:Nat} {ra:Option Addr} {rc:Nat} {L:List (List Int)} (h:RJ W tb size ra rc L) (hb:Below W.heap.size W W'):RJ W' tb size ra rc L :=
 h.chg (.ofBelow hb fun _=>False) (fun e=>e) (fun _ _ e=>e)
end
end Go.Proofs.YtajhkncolbgkbaaDoor
