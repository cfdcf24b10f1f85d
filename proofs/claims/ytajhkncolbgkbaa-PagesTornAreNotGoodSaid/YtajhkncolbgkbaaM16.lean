/- Pl4: joined by program, for one claim. -/
import Derived.Test.YtajhkncolbgkbaaM15
import Derived.Test.YtajhkncolbgkbaaM8
import Derived.BigQuiet
import Derived.Deep.CutRange
import Derived.OpenShut
set_option linter.unusedVariables false
set_option linter.unusedSimpArgs false
section
namespace Go.Proofs.Ytajhkncolbgkbaa
open Go.RowKit Go.Sort Go.Maps
theorem strFull {a:ByteArray} {n:Nat} (h:a.size=n+1):a.toList.isEmpty=false:=by
 cases hb:a.toList.isEmpty with
 | false=>rfl
 | true =>
   rw [List.isEmpty_iff,ByteArray.toList_eq] at hb
   have h1:a.data.toList.length=n+1:=by rw [Array.length_toList];exact h
   rw [hb] at h1
   exact absurd h1 (by simp)
theorem bits_flip (y:Int) (hy:0≤y∧y≤255) {s:Nat} (hs:s<8):bits .xor .u8 y (2 ^ s) ≠ y:=by
 obtain ⟨n,rfl⟩:=Int.eq_ofNat_of_zero_le hy.1
 have hn:n<256:=by omega
 have key : ∀ s:Fin 8,∀ n:Fin 256,bits .xor .u8 ((n.val:Nat):Int) (2 ^ s.val) ≠ ((n.val:Nat):Int):=by decide +kernel
 exact key ⟨s,hs⟩ ⟨n,hn⟩
structure Other (A B:List Int):Prop where
 len:B.length=128
 byts:Byts B
 ends:B.take 4=B.drop 124
 ne:A.take 4 ≠ B.take 4
theorem other_zeros {n:Nat} (h1:1≤n) (h2:n<2 ^ 32) (d:List Int):Other (sealP n d) (zerosP 128):=by
 refine ⟨rfl,fun x hx=>?_,by decide,fun h=>?_⟩
 · unfold zerosP at hx;rw [List.mem_replicate] at hx;omega
 · rw [seal_head] at h
   have:fourP n=fourP 0:=h
   have:=four_inj h2 (by decide) this
   omega
theorem other_seal {n k:Nat} (h2:n<2 ^ 32) (k2:k<2 ^ 32) (hne:n ≠ k) (d e:List Int) (he:e.length=116∧Byts e):Other (sealP n d) (sealP k e) :=
 ⟨seal_len he.1,byts_seal he.2,by rw [seal_head,seal_tail he.1],fun h=>by rw [seal_head,seal_head] at h;exact hne (four_inj h2 k2 h)⟩
theorem torn_two {A B:List Int} (hA:A.length=128∧A.take 4=A.drop 124) (h:Other A B) {k:Nat} (hk:k≤128) :
 (goodP (A.take k++B.drop k)→A.take k++B.drop k=A∨A.take k++B.drop k=B)∧(goodP (B.take k++A.drop k)→B.take k++A.drop k=A∨B.take k++A.drop k=B) :=
 ⟨torn_good hA.1 h.len hA.2 h.ends h.ne k hk,fun hg=>(torn_good h.len hA.1 h.ends hA.2 (fun e=>h.ne e.symm) k hk hg).symm⟩
theorem byts_mix {A B:List Int} (ha:Byts A) (hb:Byts B) (k:Nat):Byts (A.take k++B.drop k):=fun x hx=>by
 rcases List.mem_append.1 hx with h | h
 · exact ha x (List.mem_of_mem_take h)
 · exact hb x (List.mem_of_mem_drop h)
set_option maxRecDepth 100000 in
set_option maxHeartbeats 4000000 in
theorem pages_torn_true (w:World) (a:Int) (ha : -9223372036854775808≤a∧a≤9223372036854775807) (b:Int) (hb : -9223372036854775808≤b∧b≤9223372036854775807) (x:Int) (hx:0≤x∧x≤255) (y:Int) (hy:0≤y∧y≤255) (at_:Int) (hat:0≤at_∧at_≤255) (bit:Int) (hbit:0≤bit∧bit≤65535) :
 Calls Try.prog 6 #[.int .i64 a,.int .i64 b,.int .u8 x,.int .u8 y,.int .u8 at_,.int .u16 bit] w fun e w'=>e = .returned (.bool true)∧Below w.heap.size w w':=by
 have hsan:=Bx.mk sanity14_true
 obtain ⟨dx,hdx⟩ : ∃ dx,dx=List.replicate 116 x:=⟨_,rfl⟩
 obtain ⟨dy,hdy⟩ : ∃ dy,dy=List.replicate 116 y:=⟨_,rfl⟩
 have hdx2:dx.length=116∧Byts dx:=by subst hdx;exact ⟨List.length_replicate ..,fun z hz=>by rw [List.mem_replicate] at hz;omega⟩
 have hdy2:dy.length=116∧Byts dy:=by subst hdy;exact ⟨List.length_replicate ..,fun z hz=>by rw [List.mem_replicate] at hz;omega⟩
 have hfx:Bx (∀ W,Calls Try.prog 22 #[.int .u8 x,.int .i64 116] W fun e w'=>e = .returned (.string (strOfNums dx))∧Below W.heap.size W w'):=⟨fun W=>by rw [hdx];exact full_any x hx 116 (by omega) W⟩
 have hfy:Bx (∀ W,Calls Try.prog 22 #[.int .u8 y,.int .i64 116] W fun e w'=>e = .returned (.string (strOfNums dy))∧Below W.heap.size W w'):=⟨fun W=>by rw [hdy];exact full_any y hy 116 (by omega) W⟩
 have hsx:=Bx.mk fun W=>rseal_any a dx hdx2.2 (by omega) W
 have hsy:=Bx.mk fun W=>rseal_any b dy hdy2.2 (by omega) W
 have Hdx:=Bx.mk hdx2
 have Hdy:=Bx.mk hdy2
 clear hdx hdy hdx2 hdy2
 go_enter Try.func6,Try.ntmps6
 go_wp2_with fail
 refine (hfx.out _).mono ?_
 rintro _ w1 ⟨rfl,hb1⟩
 have HB1:=Bx.mk hb1
 clear hb1
 go_wp2_with fail
 refine (hsx.out _).mono ?_
 rintro _ w2 ⟨rfl,hb2⟩
 have HB2:=Bx.mk (HB1.out.trans (hb2.mono HB1.out.size))
 clear hb2 HB1
 go_wp2_with fail
 refine (hfy.out _).mono ?_
 rintro _ w3 ⟨rfl,hb3⟩
 have HB3:=Bx.mk (HB2.out.trans (hb3.mono HB2.out.size))
 clear hb3 HB2
 go_wp2_with fail
 refine (hsy.out _).mono ?_
 rintro _ w4 ⟨rfl,hb4⟩
 have HB4:=Bx.mk (HB3.out.trans (hb4.mono HB3.out.size))
 clear hb4 HB3 hfx hfy hsx hsy
 go_upto_region 3 with fail
 by_cases h1:1≤a∧a≤1073741824
 · obtain ⟨n,rfl⟩:=Int.eq_ofNat_of_zero_le (by omega:0≤a)
   have hv:sealV (n:Int) dx=sealP n dx:=by unfold sealV;rw [if_pos ⟨h1.1,h1.2,Hdx.out.1⟩];rfl
   have hn:1≤n∧n≤1073741824:=by omega
   rw [hv]
   have hlA:(sealP n dx).length=128:=seal_len Hdx.out.1
   have hszA:(strOfNums (sealP n dx)).size=128:=by rw [strOfNums_size];exact hlA
   obtain ⟨A,hA⟩ : ∃ A,A=sealP n dx:=⟨_,rfl⟩
   rw [←hA] at hszA hlA ⊢
   have e1:=strFull (n:=127) hszA
   have HA:=Bx.mk hA
   have HLA:=Bx.mk hlA
   have HN:=Bx.mk hn
   have HSZ:=Bx.mk hszA
   have HBA:=Bx.mk (show Byts A by rw [hA];exact byts_seal Hdx.out.2)
   have HEA:=Bx.mk (show A.take 4=A.drop 124 by rw [hA,seal_head,seal_tail Hdx.out.1])
   clear hA hlA hszA hn h1 ha hv
   go_upto_region 5 with fail
   clear e1
   go_cut [46] from 40 to 46 (fun v wx => ∃ c:Bool,v = .bool c∧wx=w4∧Bx (c=false→1≤b∧b≤1073741824∧b ≠ n))
   case first =>
    by_cases h2:1≤b∧b≤1073741824
    · have hszB:(strOfNums (sealV b dy)).size=128:=by
       have hv:sealV b dy=sealP b.toNat dy:=by unfold sealV;rw [if_pos ⟨h2.1,h2.2,Hdy.out.1⟩]
       rw [strOfNums_size,hv];exact seal_len Hdy.out.1
      have e2:=strFull (n:=127) hszB
      have H2:=Bx.mk h2
      clear hszB h2
      by_cases h3:b=(n:Int)
      · have t3:(b == (n:Int))=true:=by simp [h3]
        clear h3
        go_wp2_with fail
        go_meet
        exact ⟨true,rfl,rfl,⟨fun h=>by cases h⟩⟩
      · have t3:(b == (n:Int))=false:=by simp [h3]
        have H3:=Bx.mk h3
        clear h3
        go_wp2_with fail
        go_meet
        exact ⟨false,rfl,rfl,⟨fun _=>⟨H2.out.1,H2.out.2,H3.out⟩⟩⟩
    · have hv:sealV b dy=[]:=by unfold sealV;rw [if_neg (fun h=>h2 ⟨h.1,h.2.1⟩)]
      have e2:(strOfNums (sealV b dy)).toList.isEmpty=true:=by rw [hv,ByteArray.toList_eq];rfl
      clear hv h2
      go_wp2_with fail
      go_meet
      exact ⟨true,rfl,rfl,⟨fun h=>by cases h⟩⟩
   case rest =>
   obtain ⟨c,rfl,hw,HC⟩:=hcut
   replace hw:=hw.symm
   subst hw
   go_upto_if 46 with fail
   go_cut [14] from 47 to 47 (fun v wx => ∃ B:List Int,v = .string (strOfNums B)∧Bx (Other A B)∧Bx (Below w.heap.size w wx))
   case first =>
    cases c with
    | true =>
      go_wp2_with fail
      refine (rblank_any _).mono ?_
      rintro _ w5 ⟨rfl,hb5⟩
      have HB5:=Bx.mk (HB4.out.trans (hb5.mono HB4.out.size))
      clear hb5
      go_wp2_with fail
      go_meet
      exact ⟨_,rfl,⟨by rw [HA.out];exact other_zeros HN.out.1 (by have:=HN.out;omega) dx⟩,HB5⟩
    | false =>
      have hc:=HC.out rfl
      have hv:sealV b dy=sealP b.toNat dy:=by unfold sealV;rw [if_pos ⟨hc.1,hc.2.1,Hdy.out.1⟩]
      have HO:Bx (Other A (sealV b dy)):=⟨by rw [HA.out,hv];exact other_seal (by have:=HN.out;omega) (by omega) (by omega) dx dy Hdy.out⟩
      clear hc hv
      go_wp2_with fail
      go_meet
      exact ⟨_,rfl,HO,HB4⟩
   case rest =>
   obtain ⟨B,rfl,HO,HB5⟩:=hcut
   clear HB4 HC
   generalize wc=w5 at *
   obtain ⟨k,hk⟩ : ∃ k:Nat,k=(at_ % 129).toNat:=⟨_,rfl⟩
   have hk128:k≤128:=by omega
   have w1:IntKind.i64.wrap at_=at_:=IntWalk.i64_in _ (by omega)
   have w2:at_ % 129=(k:Int):=by omega
   have w3:at_.tmod 129=(k:Int):=by rw [Int.tmod_eq_emod_of_nonneg (by omega)];exact w2
   have w4:IntKind.i64.wrap (at_.tmod 129)=(k:Int):=by rw [w3];exact IntWalk.i64_in _ (by omega)
   clear hk
   go_upto_region 8 with fail
   clear w1 w2 w3 w4
   have HT:=Bx.mk (torn_two ⟨HLA.out,HEA.out⟩ HO.out hk128)
   have HM1:=Bx.mk (byts_mix HBA.out HO.out.byts k)
   have HM2:=Bx.mk (byts_mix HO.out.byts HBA.out k)
   have hlB:=HO.out.len
   have hszA:=HSZ.out
   have hszB:(strOfNums B).size=128:=by rw [strOfNums_size];exact hlB
   obtain ⟨T1,hT1⟩ : ∃ T,T=A.take k++B.drop k:=⟨_,rfl⟩
   obtain ⟨T2,hT2⟩ : ∃ T,T=B.take k++A.drop k:=⟨_,rfl⟩
   have x1:(strOfNums A).extract 0 k=strOfNums (A.take k):=by rw [str_extract];rfl
   have x2:(strOfNums B).extract k 128=strOfNums (B.drop k):=by rw [str_extract,List.take_of_length_le (by rw [List.length_drop,hlB];omega)]
   have x3:(strOfNums B).extract 0 k=strOfNums (B.take k):=by rw [str_extract];rfl
   have x4:(strOfNums A).extract k 128=strOfNums (A.drop k):=by rw [str_extract,List.take_of_length_le (by rw [List.length_drop,HLA.out];omega)]
   have y1:strOfNums (A.take k)++strOfNums (B.drop k)=strOfNums T1:=by rw [str_append,hT1]
   have y2:strOfNums (B.take k)++strOfNums (A.drop k)=strOfNums T2:=by rw [str_append,hT2]
   have z1:(strOfNums (A.take k)).size=k:=by rw [strOfNums_size,List.length_take,HLA.out];omega
   have z2:(strOfNums (B.drop k)).size=128 - k:=by rw [strOfNums_size,List.length_drop,hlB]
   have z3:(strOfNums (B.take k)).size=k:=by rw [strOfNums_size,List.length_take,hlB];omega
   have z4:(strOfNums (A.drop k)).size=128 - k:=by rw [strOfNums_size,List.length_drop,HLA.out]
   rw [←hT1,←hT2] at HT
   rw [←hT1] at HM1
   rw [←hT2] at HM2
   have hl1:T1.length=128:=by rw [hT1,List.length_append,List.length_take,List.length_drop,HLA.out,hlB];omega
   have hl2:T2.length=128:=by rw [hT2,List.length_append,List.length_take,List.length_drop,HLA.out,hlB];omega
   have HL1:=Bx.mk hl1
   have HL2:=Bx.mk hl2
   clear hl1 hl2 hlB
   generalize strOfNums (A.take k)=TA at *
   generalize strOfNums (B.drop k)=UB at *
   generalize strOfNums (B.take k)=TB at *
   generalize strOfNums (A.drop k)=UA at *
   have b1:(0:Int)≤(k:Int):=by omega
   have b2:(k:Int)≤128:=by omega
   have b3:k+(128 - k)≤1000:=by omega
   clear hT1 hT2
   refine wp_region_quiet_below (by kernel_rfl) (by kernel_rfl) ?_
   repeat (first
    | go_big_quiet_step (fail)
    | quiet_step (fail))
   refine wpQuiet_nil ?_
   rintro _ ⟨⟨dq,osq⟩,rfl⟩
   have hbq:=below_regrown w5 dq osq
   have HB6:=Bx.mk (HB5.out.trans (hbq.mono HB5.out.size))
   clear hbq HB5
   generalize grow (redrawn w5 dq) osq=w6 at *
   go_upto_region 9 with fail
   refine wp_region_quiet_below (by kernel_rfl) (by kernel_rfl) ?_
   repeat (first
    | go_big_quiet_step (fail)
    | quiet_step (fail))
   refine wpQuiet_nil ?_
   rintro _ ⟨⟨dq,osq⟩,rfl⟩
   have hbq:=below_regrown w6 dq osq
   have HB7:=Bx.mk (HB6.out.trans (hbq.mono HB6.out.size))
   clear hbq HB6 x1 x2 x3 x4 y1 y2 z1 z2 z3 z4 b1 b2 b3 hszA hszB
   generalize grow (redrawn w6 dq) osq=w7 at *
   have hu1:=Bx.mk fun W=>unseal_any T1 HM1.out (by rw [HL1.out];decide) W
   have hu2:=Bx.mk fun W=>unseal_any T2 HM2.out (by rw [HL2.out];decide) W
   unfold unV at hu1 hu2
   have HG1:Bx (decide (goodP T1)=true→T1=A∨T1=B):=⟨fun h=>HT.out.1 (of_decide_eq_true h)⟩
   have HG2:Bx (decide (goodP T2)=true→T2=A∨T2=B):=⟨fun h=>HT.out.2 (of_decide_eq_true h)⟩
   generalize decide (goodP T1)=G1 at *
   generalize decide (goodP T2)=G2 at *
   generalize (numOf T1:Int)=N1 at *
   generalize (numOf T2:Int)=N2 at *
   generalize strOfNums (datOf T1)=D1 at *
   generalize strOfNums (datOf T2)=D2 at *
   have HS:Bx (∀ X Y:List Int,X=Y→(strOfNums X).toList=(strOfNums Y).toList):=⟨fun X Y h=>by rw [h]⟩
   obtain ⟨S1,hS1⟩ : ∃ S,S=strOfNums T1:=⟨_,rfl⟩
   obtain ⟨S2,hS2⟩ : ∃ S,S=strOfNums T2:=⟨_,rfl⟩
   rw [←hS1] at hu1 ⊢
   rw [←hS2] at hu2 ⊢
   have HS1:=Bx.mk hS1
   have HS2:=Bx.mk hS2
   clear hS1 hS2
   go_upto_region 11 with (go_at_call 8;refine (hu1.out _).mono ?_;rintro _ w8 ⟨rfl,hb8⟩)
   have HB8:=Bx.mk (HB7.out.trans (hb8.mono HB7.out.size))
   clear hb8 HB7
   go_upto_region 12 with (go_at_call 8;refine (hu2.out _).mono ?_;rintro _ w9 ⟨rfl,hb9⟩)
   have HB9:=Bx.mk (HB8.out.trans (hb9.mono HB8.out.size))
   clear hb9 HB8 hu1 hu2
   go_cut [100] from 77 to 100 (fun v wx=>v = .bool false∧wx=w9)
   case first =>
    have h1:G1=false∨(G1=true∧S1=strOfNums A)∨(G1=true ∧ ¬S1=strOfNums A∧S1=strOfNums B):=by
     cases hg:G1 with
     | false=>exact .inl rfl
     | true =>
       by_cases hx:S1=strOfNums A
       · exact .inr (.inl ⟨rfl,hx⟩)
       · rcases HG1.out hg with h | h
         · exact absurd (by rw [HS1.out,h]) hx
         · exact .inr (.inr ⟨rfl,hx,by rw [HS1.out,h]⟩)
    have h2:G2=false∨(G2=true∧S2=strOfNums A)∨(G2=true ∧ ¬S2=strOfNums A∧S2=strOfNums B):=by
     cases hg:G2 with
     | false=>exact .inl rfl
     | true =>
       by_cases hx:S2=strOfNums A
       · exact .inr (.inl ⟨rfl,hx⟩)
       · rcases HG2.out hg with h | h
         · exact absurd (by rw [HS2.out,h]) hx
         · exact .inr (.inr ⟨rfl,hx,by rw [HS2.out,h]⟩)
    have HEQ:Bx (∀ X Y:ByteArray,X=Y→(X.toList == Y.toList)=true):=⟨fun X Y h=>by rw [h];simp⟩
    generalize strOfNums A=SA at *
    generalize strOfNums B=SB at *
    rcases h1 with h1 | ⟨h1,e1⟩ | ⟨h1,e1,e1'⟩
    · rcases h2 with h2 | ⟨h2,e2⟩ | ⟨h2,e2,e2'⟩
      · subst h1 h2
        go_wp2_with fail
        go_meet
        exact ⟨rfl,rfl⟩
      · have f2:=HEQ.out _ _ e2
        clear e2 HS2
        subst h1 h2
        go_wp2_with fail
        go_meet
        exact ⟨rfl,rfl⟩
      · have f2:=strNe e2
        have f3:=HEQ.out _ _ e2'
        clear e2 e2' HS2
        subst h1 h2
        go_wp2_with fail
        go_meet
        exact ⟨rfl,rfl⟩
    · have f1:=HEQ.out _ _ e1
      clear e1 HS1
      rcases h2 with h2 | ⟨h2,e2⟩ | ⟨h2,e2,e2'⟩
      · subst h1 h2
        go_wp2_with fail
        go_meet
        exact ⟨rfl,rfl⟩
      · have f2:=HEQ.out _ _ e2
        clear e2 HS2
        subst h1 h2
        go_wp2_with fail
        go_meet
        exact ⟨rfl,rfl⟩
      · have f2:=strNe e2
        have f3:=HEQ.out _ _ e2'
        clear e2 e2' HS2
        subst h1 h2
        go_wp2_with fail
        go_meet
        exact ⟨rfl,rfl⟩
    · have f1:=strNe e1
      have f4:=HEQ.out _ _ e1'
      clear e1 e1' HS1
      rcases h2 with h2 | ⟨h2,e2⟩ | ⟨h2,e2,e2'⟩
      · subst h1 h2
        go_wp2_with fail
        go_meet
        exact ⟨rfl,rfl⟩
      · have f2:=HEQ.out _ _ e2
        clear e2 HS2
        subst h1 h2
        go_wp2_with fail
        go_meet
        exact ⟨rfl,rfl⟩
      · have f2:=strNe e2
        have f3:=HEQ.out _ _ e2'
        clear e2 e2' HS2
        subst h1 h2
        go_wp2_with fail
        go_meet
        exact ⟨rfl,rfl⟩
   case rest =>
   obtain ⟨rfl,hw⟩:=hcut
   replace hw:=hw.symm
   subst hw
   clear HT HM1 HM2 HL1 HL2 HG1 HG2 HS HS1 HS2 HO
   obtain ⟨bn,hbn⟩ : ∃ bn:Nat,bn=(bit % 1024).toNat:=⟨_,rfl⟩
   have hb1024:bn<1024:=by omega
   have v1:IntKind.i64.wrap bit=bit:=IntWalk.i64_in _ (by omega)
   have v2:bit % 1024=(bn:Int):=by omega
   have v3:bit.tmod 1024=(bn:Int):=by rw [Int.tmod_eq_emod_of_nonneg (by omega)];exact v2
   have v4:IntKind.i64.wrap (bit.tmod 1024)=(bn:Int):=by rw [v3];exact IntWalk.i64_in _ (by omega)
   obtain ⟨cp,w10,hcv,hsl,hb10,hfr,hsz⟩:=bytes_of_str2 (P:=Try.prog) 9 66 5 Try.underlying9 Try.underlying66 Try.underlying5 HBA.out w9
   rw [HLA.out] at hcv hfr
   obtain ⟨qq,hqq⟩ : ∃ qq,qq=bn / 8:=⟨_,rfl⟩
   obtain ⟨sh,hsh⟩ : ∃ sh,sh=bn % 8:=⟨_,rfl⟩
   have hq8:qq<128:=by omega
   have hs8:sh<8:=by omega
   have e1:IntKind.i64.wrap ((bn:Int) / 8)=(qq:Int):=by rw [IntWalk.i64_in _ (by omega)];omega
   have e2:(bn:Int) % 8=(sh:Int):=by omega
   obtain ⟨yv,hyv⟩ : ∃ yv,A[qq]? = some yv:=⟨_,List.getElem?_eq_getElem (by rw [HLA.out];exact hq8)⟩
   have hyb:=HBA.out yv (List.mem_of_getElem? hyv)
   obtain ⟨_,_,he,hcy⟩:=hsl qq yv hyv
   simp only [Option.some.injEq,Addr.mk.injEq,and_true] at he
   obtain ⟨rfl,rfl⟩:=he
   rw [Nat.zero_add] at hcy
   have hf2:=hfr qq hq8
   have HB10:=Bx.mk (HB9.out.trans (hb10.mono HB9.out.size))
   have HBlo:=Bx.mk HB9.out.size
   have HYV:=Bx.mk hyv
   have HYB:=Bx.mk hyb
   replace hsl:=Bx.mk hsl
   replace hcy:=Bx.mk hcy
   replace hf2:=Bx.mk hf2
   replace hsz:=Bx.mk hsz
   clear hfr hqq hsh hbn hb10 hyv hyb HB9
   go_upto_region 16 with fail
   clear v1 v2 v3 v4 hcv
   have c1 : ∀ dk osk,(grow (redrawn w10 dk) osk).cell? ⟨w9.heap.size,qq,none⟩=some (.int .u8 yv):=cell_regrown hcy.out
   have b2:(0:Int)≤(qq:Int):=by omega
   have b3:(qq:Int)<128:=by omega
   refine wp_region_headT_below 13 (by kernel_rfl) (by kernel_rfl) ?_
   simp only [List.take_succ_cons,List.take_zero,List.drop_succ_cons,List.drop_zero]
   repeat (first | go_big_quiet_step (fail) | quiet_step (fail))
   have e3:(2:Int) ^ sh % 256=2 ^ sh:=by
    have:sh=0∨sh=1∨sh=2∨sh=3∨sh=4∨sh=5∨sh=6∨sh=7:=by omega
    rcases this with rfl | rfl | rfl | rfl | rfl | rfl | rfl | rfl <;> decide
   rw [e3]
   have hzn:Bx (bits .xor .u8 yv (2 ^ sh) ≠ yv):=⟨bits_flip yv HYB.out hs8⟩
   have hbx:Bx (0≤bits .xor .u8 yv (2 ^ sh)∧bits .xor .u8 yv (2 ^ sh)≤255):=⟨bits_u8 _ _⟩
   clear e3 c1
   generalize bits .xor .u8 yv (2 ^ sh)=z at *
   refine wpQuiet_nil ?_
   rintro _ ⟨⟨dq,osq⟩,rfl⟩
   have hb5:=below_regrown w10 dq osq
   replace hcy:=Bx.mk (cell_later hb5 hcy.out)
   have hf5:(grow (redrawn w10 dq) osq).frozen? ⟨w9.heap.size,qq,none⟩=false:=by rw [hb5.frozen (p:=⟨w9.heap.size,qq,none⟩) hsz.out];exact hf2.out
   replace hsl:=Bx.mk (hsl.out.below hb5)
   have HB11:=Bx.mk (HB10.out.trans (hb5.mono HB10.out.size))
   clear hb5 hf2 HB10
   generalize grow (redrawn w10 dq) osq=w11 at *
   have cc:=hcy.out
   go_upto_region 17 with fail
   have hS6:=hsl.out.put (i:=qq) (by rw [HLA.out];exact hq8) z
   have hlen:(A.set qq z).length=128:=by rw [List.length_set];exact HLA.out
   have hbyt:Byts (A.set qq z):=fun v hv=>by
    rcases List.mem_or_eq_of_mem_set hv with h1 | h1
    · exact HBA.out v h1
    · rw [h1];exact hbx.out
   have HB12:Bx (Below w.heap.size w (w11.setCell ⟨w9.heap.size,qq,none⟩ (.int .u8 z))):=⟨HB11.out.setCell (by have:=hsz.out;simp only;have h9:=HB11.out.size;have:=HBlo.out;omega) _⟩
   have hng:decide (goodP (A.set qq z))=false:=decide_eq_false (by
    have h1:=HYV.out
    rw [HA.out] at h1 ⊢
    exact rot_sealed HN.out.1 (by have:=HN.out;omega) Hdx.out.1 Hdx.out.2 qq hq8 z hbx.out (fun h=>by rw [h] at h1;exact hzn.out (Option.some.inj h1)))
   clear hsl hcy hf5 HB11 cc
   generalize World.setCell w11 _ _=w12 at *
   have hcv:=conv_str (P:=Try.prog) 66 5 9 Try.underlying66 Try.underlying5 Try.underlying9 hS6 128 cp hlen.symm
   have hu:=Bx.mk fun W=>unseal_any (A.set qq z) hbyt (by rw [hlen];decide) W
   unfold unV at hu
   rw [hng] at hu
   clear hS6 hlen hbyt hng
   generalize strOfNums (datOf (A.set qq z))=D3 at *
   generalize (numOf (A.set qq z):Int)=N3 at *
   generalize strOfNums (A.set qq z)=S3 at *
   go_upto_region 18 with (go_at_call 8;refine (hu.out _).mono ?_;rintro _ w13 ⟨rfl,hb13⟩)
   have HB13:=Bx.mk (HB12.out.trans (hb13.mono HB12.out.size))
   clear hb13 hu hcv HB12
   go_wp2_with fail
   refine (hsan.out _).mono ?_
   rintro _ w14 ⟨rfl,hb14⟩
   have HB14:=Bx.mk (HB13.out.trans (hb14.mono HB13.out.size))
   clear hb14
   go_wp2_with fail
   go_ret
   exact ⟨rfl,HB14.out⟩
 · have hv:sealV a dx=[]:=by unfold sealV;rw [if_neg (fun h=>h1 ⟨h.1,h.2.1⟩)]
   rw [hv]
   rw [show strOfNums ([]:List Int)=(⟨#[]⟩:ByteArray) by rfl]
   go_wp2_with fail
   refine (hsan.out _).mono ?_
   rintro _ w5 ⟨rfl,hb5⟩
   have HB5:=Bx.mk (HB4.out.trans (hb5.mono HB4.out.size))
   clear hb5
   go_wp2_with fail
   go_ret
   exact ⟨rfl,HB5.out⟩
theorem bounds_u8 {n:Int} (h:(Lit.int .u8 n).wf=true):0≤n∧n≤255:=by
 simp [Lit.wf,IntKind.min,IntKind.max,IntKind.signed,IntKind.bits] at h
 omega
theorem bounds_u16 {n:Int} (h:(Lit.int .u16 n).wf=true):0≤n∧n≤65535:=by
 simp [Lit.wf,IntKind.min,IntKind.max,IntKind.signed,IntKind.bits] at h
 omega
end Go.Proofs.Ytajhkncolbgkbaa
end
