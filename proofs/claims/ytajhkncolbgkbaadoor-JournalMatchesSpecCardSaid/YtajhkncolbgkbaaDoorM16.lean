/- Jop, Jcg, Jwp: joined by program, for one claim. -/
import Derived.Test.YtajhkncolbgkbaaDoorM15
import Derived.Test.YtajhkncolbgkbaaDoorM2
import Derived.BigQuiet
import Derived.Test.YtajhkncolbgkbaaDoorM9
set_option linter.unusedVariables false
set_option linter.unusedSimpArgs false
namespace Go.Proofs.YtajhkncolbgkbaaDoor
section
open Go.RowKit Go.Sort Go.Maps
def restLen (w:World) (cb:Nat):Nat:=match w.cell? ⟨cb,0,none⟩ with | some (.string s)=>s.size | _=>0
theorem restLen_of {w:World} {cb:Nat} {l:List Int} (h:CutB w cb l):restLen w cb=l.length:=by
 unfold restLen
 rw [show w.cell? ⟨cb,0,none⟩=some (.string (strOfNums l)) from Bk.cell h 0 rfl]
 exact strOfNums_size l
set_option maxRecDepth 100000 in
set_option maxHeartbeats 8000000 in
theorem jopen_any (w:World) (pp n:Nat) (hn:1≤n∧n≤200) (rd:Nat→List Int × Int) (hok : ∀ k,k<n→(rd k).2=0→(rd k).1.length=116∧Byts (rd k).1)
 (HL:Bx (∀ W,Below w.heap.size w W→Calls Tryd.prog 26 #[.pointer (some ⟨pp,0,none⟩)] W fun e w'=>e = .returned (.int .i64 (n:Int))∧W=w'))
 (HR:Bx (∀ W,Below w.heap.size w W → ∀ k:Nat,k<n→Calls Tryd.prog 27 #[.pointer (some ⟨pp,0,none⟩),.int .i64 (k:Int)] W fun e w'=>e = .returned (.tuple #[.string (strOfNums (rd k).1),.int .i64 (rd k).2])∧Below W.heap.size W w')) :
 Calls Tryd.prog 29 #[.pointer (some ⟨pp,0,none⟩)] w (JOpen w pp ((n - 1) / 2) (openJ n rd)):=by
 obtain ⟨R,hR⟩ : ∃ R,R=openJ n rd:=⟨_,rfl⟩
 rw [←hR]
 have HRR:=Bx.mk hR
 have HOK:=Bx.mk hok
 have HN:=Bx.mk hn
 obtain ⟨n1,hn1⟩ : ∃ n1,n1=n - 1:=⟨_,rfl⟩
 obtain ⟨h,hh⟩ : ∃ h,h=(n - 1) / 2:=⟨_,rfl⟩
 rw [←hh]
 have HH:=Bx.mk hh
 have e1:IntKind.i64.wrap ((n:Int) - 1)=(n1:Int):=by rw [IntWalk.i64_in _ (by omega)];omega
 have d1:((n1:Int)).tdiv 2=(h:Int):=by rw [Int.tdiv_eq_ediv_of_nonneg (by omega)];omega
 have d2:(n1:Int) / 2=(h:Int):=by omega
 have d3:IntKind.i64.wrap (h:Int)=(h:Int):=IntWalk.i64_in _ (by omega)
 clear hR hok hn hn1 hh
 go_enter Tryd.func29,Tryd.ntmps29
 go_wp2_with fail
 refine (HL.out _ (Below.refl _ _)).mono ?_
 rintro _ _ ⟨rfl,rfl⟩
 go_upto_region 2 with fail
 clear e1 d1 d2 d3 HL
 generalize hW:World.alloc _ _=W
 have HB:Bx (Below w.heap.size w W):=⟨by rw [←hW];exact (Below.refl _ _).alloc (Nat.le_refl _) _⟩
 have HJ:Bx (JS W w.heap.size pp h 0 [] (.slice none 0 0) false):=⟨by rw [←hW];exact blk_new _ _ _ rfl⟩
 obtain ⟨jb,hjb⟩ : ∃ jb,jb=w.heap.size:=⟨_,rfl⟩
 rw [←hjb] at HJ ⊢
 have HJB:=Bx.mk hjb
 clear hW hjb
 have c1:=Bk.cell HJ.out 1 rfl
 by_cases hs:h<1
 · have t0:decide ((h:Int)<1)=true:=by simp;omega
   have t0b:decide (h<1)=true:=by simpa using hs
   have HF:Bx (R = .error 1):=⟨by rw [HRR.out];exact openJ_small (by rw [←HH.out];exact hs)⟩
   clear hs
   go_wp2_with fail
   go_ret2
   rw [HF.out]
   exact ⟨HB.out,by decide,rfl⟩
 · have t0:decide ((h:Int)<1)=false:=by simp;omega
   have t0b:decide (h<1)=false:=by simpa using hs
   have HS:Bx (¬(n - 1) / 2<1):=⟨by rw [←HH.out];exact hs⟩
   have hr0:=Bx.mk (HR.out W HB.out 0 (by have:=HN.out;omega))
   clear hs
   go_upto_region 5 with (go_at_call 27;refine hr0.out.mono ?_;rintro _ w2 ⟨rfl,hb2⟩)
   have HB2:=Bx.mk (HB.out.trans (hb2.mono HB.out.size))
   have HJ2:=Bx.mk (HJ.out.later hb2)
   clear hb2 hr0 HJ HB c1 t0 t0b
   by_cases h0:(rd 0).2=0
   case neg =>
    have n1:((rd 0).2 != 0)=true:=by simpa using h0
    have n2:((rd 0).2 == 0)=false:=by simpa using h0
    have HF:Bx ((rd 0).2 ≠ 0∧R = .error (rd 0).2):=⟨h0,by rw [HRR.out];exact openJ_read HS.out h0⟩
    generalize (rd 0).2=er at *
    clear h0
    go_wp2_with fail
    go_ret2
    rw [HF.out.2]
    exact ⟨HB2.out,HF.out.1,rfl⟩
   case pos =>
    obtain ⟨hdl,hdb⟩:=HOK.out 0 (by have:=HN.out;omega) h0
    have H0:=Bx.mk h0
    rw [h0]
    obtain ⟨hd,hhd⟩ : ∃ hd,hd=(rd 0).1:=⟨_,rfl⟩
    rw [←hhd] at hdl hdb ⊢
    have HHD:=Bx.mk hhd
    have HDL:=Bx.mk hdl
    have HDB:=Bx.mk hdb
    obtain ⟨x0,hx0⟩ : ∃ x0,hd[0]? = some x0:=⟨_,List.getElem?_eq_getElem (by omega)⟩
    have hxb:=hdb x0 (List.mem_of_getElem? hx0)
    obtain ⟨hk2,hget⟩:=str_get hdb hx0
    obtain ⟨bank,hbk⟩ : ∃ bank,bank=hBank hd:=⟨_,rfl⟩
    have hxk:x0=(bank:Int):=by rw [hbk];unfold hBank;rw [List.getD_eq_getElem?_getD,hx0];simp;omega
    subst hxk
    have HBK:=Bx.mk hbk
    have hsz:(strOfNums hd).size=116:=by rw [strOfNums_size];exact hdl
    have hx8:IntKind.i64.wrap (bank:Int)=(bank:Int):=IntWalk.i64_in _ (by omega)
    have c2:=Bk.cell HJ2.out 2 rfl
    have f2:=Bk.frozen HJ2.out 2
    clear hhd hdl hdb hx0 hbk h0
    generalize hHD:strOfNums hd=HDs at *
    go_upto_region 8 with fail
    have HJ3:Bx (JS (w2.setCell ⟨jb,2,none⟩ (.int .i64 (bank:Int))) jb pp h bank [] (.slice none 0 0) false):=⟨by simpa [JS] using Bk.set HJ2.out 2 (.int .i64 (bank:Int))⟩
    have HB3:Bx (Below w.heap.size w (w2.setCell ⟨jb,2,none⟩ (.int .i64 (bank:Int)))):=⟨HB2.out.setCell (by show w.heap.size≤jb;rw [HJB.out];exact Nat.le_refl _) _⟩
    generalize World.setCell w2 _ _=w3 at *
    clear c2 f2 HJ2 HB2 hget hk2 hx8 hxb
    have hex1:HDs.extract 1 5=strOfNums ((hd.drop 1).take 4):=by rw [←hHD,str_extract]
    have hex2:HDs.extract 5 9=strOfNums ((hd.drop 5).take 4):=by rw [←hHD,str_extract]
    have hex3:HDs.extract 9 116=strOfNums (hd.drop 9):=by rw [←hHD,str_extract,List.take_of_length_le (by rw [List.length_drop,HDL.out];omega)]
    have hnm1:=Bx.mk fun W=>jnumber_any ((hd.drop 1).take 4) (fun x hx=>HDB.out x (List.mem_of_mem_drop (List.mem_of_mem_take hx))) (by rw [List.length_take];omega) W
    have hnm2:=Bx.mk fun W=>jnumber_any ((hd.drop 5).take 4) (fun x hx=>HDB.out x (List.mem_of_mem_drop (List.mem_of_mem_take hx))) (by rw [List.length_take];omega) W
    have hub:numK ((hd.drop 1).take 4)<2 ^ 32:=by
     have h1:=numK_lt (l:=(hd.drop 1).take 4) (fun x hx=>HDB.out x (List.mem_of_mem_drop (List.mem_of_mem_take hx)))
     rw [show ((hd.drop 1).take 4).length=4 by rw [List.length_take,List.length_drop,HDL.out];rfl] at h1
     exact h1
    obtain ⟨T,hT1,hT2⟩:=jtrim_any (hd.drop 9) (fun x hx=>HDB.out x (List.mem_of_mem_drop hx)) (by rw [List.length_drop,HDL.out];decide)
    have HT1:=Bx.mk hT1
    obtain ⟨u,hu⟩ : ∃ u,u=hUsed hd:=⟨_,rfl⟩
    obtain ⟨ct,hct⟩ : ∃ ct,ct=hCnt hd:=⟨_,rfl⟩
    have HU:=Bx.mk hu
    have HCT:=Bx.mk hct
    rw [show numK ((hd.drop 1).take 4)=u from hu.symm] at hnm1 hub
    rw [show numK ((hd.drop 5).take 4)=ct from hct.symm] at hnm2
    generalize strOfNums ((hd.drop 1).take 4)=S15 at *
    generalize strOfNums ((hd.drop 5).take 4)=S59 at *
    generalize strOfNums (hd.drop 9)=S9 at *
    have hT3:Bx (T.toList.isEmpty=true ↔ ∀ x∈hd.drop 9,x=0):=⟨hT2⟩
    clear hT1 hT2 hu hct hHD
    refine wp_region_relT 6 (fun ii v w'=>match ii with
     | 0=>v = .string HDs
     | 1=>v = .string S15
     | 2=>v = .int .i64 (u:Int)
     | 3=>v = .string HDs
     | 4=>v = .string S59
     | _=>v = .int .i64 (ct:Int)) (by kernel_rfl) (by kernel_rfl) 141 (by kernel_rfl) (by rfl) ?_ ?_ ?_
    · intro ii hi v u1 u2 hb h
      match ii,hi with
      | 0,_=>exact h
      | 1,_=>exact h
      | 2,_=>exact h
      | 3,_=>exact h
      | 4,_=>exact h
      | 5,_=>exact h
    · intro ii o hi ho ρ wx hb hc1 hc2 hc3 hk
      match ii,hi with
      | 0, _ =>
        obtain rfl:=Option.some.inj ho
        have g0:ρ (.tmp 5) = .string HDs:=hk 5 (by simp [Op.operands,Call.operands])
        clear hk hb HR HJ3 HB3 HOK HT1 hT3
        go_simp
        exact Below.refl _ _
      | 1, _ =>
        obtain rfl:=Option.some.inj ho
        have g0:ρ (.tmp 42) = .string HDs:=hk 42 (by simp [Op.operands,Call.operands])
        clear hk hb HR HJ3 HB3 HOK HT1 hT3
        go_simp
        exact Below.refl _ _
      | 2, _ =>
        obtain rfl:=Option.some.inj ho
        have g0:ρ (.tmp 43) = .string S15:=hk 43 (by simp [Op.operands,Call.operands])
        have h4:=(hnm1.out wx).mono fun e w' (h:e = .returned (.int .i64 (u:Int))∧w'=wx)=>(⟨h.1,h.2 ▸ Below.refl _ _⟩:e = .returned (.int .i64 (u:Int))∧Below wx.heap.size wx w')
        have H4:=Bx.mk h4
        clear h4
        clear hk hb HR HJ3 HB3 HOK HT1 hT3
        go_simp
        all_goals exact H4.out
      | 3, _ =>
        obtain rfl:=Option.some.inj ho
        have g0:ρ (.tmp 5) = .string HDs:=hk 5 (by simp [Op.operands,Call.operands])
        clear hk hb HR HJ3 HB3 HOK HT1 hT3
        go_simp
        exact Below.refl _ _
      | 4, _ =>
        obtain rfl:=Option.some.inj ho
        have g0:ρ (.tmp 45) = .string HDs:=hk 45 (by simp [Op.operands,Call.operands])
        clear hk hb HR HJ3 HB3 HOK HT1 hT3
        go_simp
        exact Below.refl _ _
      | 5, _ =>
        obtain rfl:=Option.some.inj ho
        have g0:ρ (.tmp 46) = .string S59:=hk 46 (by simp [Op.operands,Call.operands])
        have h4:=(hnm2.out wx).mono fun e w' (h:e = .returned (.int .i64 (ct:Int))∧w'=wx)=>(⟨h.1,h.2 ▸ Below.refl _ _⟩:e = .returned (.int .i64 (ct:Int))∧Below wx.heap.size wx w')
        have H4:=Bx.mk h4
        clear h4
        clear hk hb HR HJ3 HB3 HOK HT1 hT3
        go_simp
        all_goals exact H4.out
    · intro vs w4 hlen hb hR
      match vs,hlen with
      | [v0, v1, v2, v3, v4, v5], _ =>
        have r0:v0 = .string HDs:=hR 0 v0 rfl
        have r1:v1 = .string S15:=hR 1 v1 rfl
        have r2:v2 = .int .i64 (u:Int):=hR 2 v2 rfl
        have r3:v3 = .string HDs:=hR 3 v3 rfl
        have r4:v4 = .string S59:=hR 4 v4 rfl
        have r5:v5 = .int .i64 (ct:Int):=hR 5 v5 rfl
        clear hR
        subst r0 r1 r2 r3 r4 r5
        have HJ4:=Bx.mk (HJ3.out.later hb)
        have HB4:=Bx.mk (HB3.out.trans (hb.mono HB3.out.size))
        clear hb HJ3 HB3 hnm1 hnm2 hex1 hex2
        simp only [puts,List.take_succ_cons,List.take_zero,List.drop_succ_cons,List.drop_zero,List.map_cons,List.map_nil,List.zip_cons_cons,List.zip_nil_right,List.foldl_cons,List.foldl_nil]
        simp only [Act.put,List.setIfInBounds_toArray,List.set_cons_succ,List.set_cons_zero]
        go_upto_region 9 with fail
        have hh1000:h≤1000:=by have:=HH.out;have:=HN.out;omega
        have hsi:=Bx.mk (jsize_any w4 jb pp h bank [] (.slice none 0 0) false HJ4.out hh1000)
        have c2:=Bk.cell HJ4.out 2 rfl
        by_cases hb1:1<bank
        · have t1:decide ((bank:Int) > 1)=true:=by simp;omega
          have t1b:decide (1<bank)=true:=by simpa using hb1
          have HF:Bx (R = .error 7):=⟨by rw [HRR.out];exact openJ_bad HS.out H0.out (.inl (by rw [←HHD.out,←HBK.out];exact hb1))⟩
          clear hb1 hsi
          go_wp2_with fail
          go_ret2
          rw [HF.out]
          exact ⟨HB4.out,by decide,rfl⟩
        · have t1:decide ((bank:Int) > 1)=false:=by simp;omega
          have t1b:decide (1<bank)=false:=by simpa using hb1
          have HB1:Bx (bank≤1):=⟨by omega⟩
          clear hb1
          obtain ⟨h6,hh6⟩ : ∃ h6,h6=h * 116:=⟨_,rfl⟩
          rw [←hh6] at hsi
          have HH6:=Bx.mk hh6
          by_cases hb2:h6<u
          · have t2:decide ((u:Int) > (h6:Int))=true:=by simp;omega
            have t2b:decide (h6<u)=true:=by simpa using hb2
            have HF:Bx (R = .error 7):=⟨by rw [HRR.out];exact openJ_bad HS.out H0.out (.inr (.inl (by rw [←HHD.out,←HH.out,←HU.out,←HH6.out];exact hb2)))⟩
            clear hb2 hh6
            go_wp2_with fail
            refine hsi.out.mono ?_
            rintro _ _ ⟨rfl,rfl⟩
            go_wp2_with fail
            go_ret2
            rw [HF.out]
            exact ⟨HB4.out,by decide,rfl⟩
          · have t2:decide ((u:Int) > (h6:Int))=false:=by simp;omega
            have t2b:decide (h6<u)=false:=by simpa using hb2
            have HU6:Bx (u≤h * 116):=⟨by omega⟩
            clear hb2 hh6
            cases hT:T.toList.isEmpty with
            | false =>
              have HF:Bx (R = .error 7):=⟨by rw [HRR.out];exact openJ_bad HS.out H0.out (.inr (.inr (by rw [←HHD.out];intro ha;have:=hT3.out.2 ha;rw [hT] at this;cases this)))⟩
              clear hT3
              go_wp2_with fail
              refine hsi.out.mono ?_
              rintro _ _ ⟨rfl,rfl⟩
              go_wp2_with fail
              refine (HT1.out _).mono ?_
              rintro _ w5 ⟨rfl,hb5⟩
              have HB5:=Bx.mk (HB4.out.trans (hb5.mono HB4.out.size))
              clear hb5
              go_wp2_with fail
              go_ret2
              rw [HF.out]
              exact ⟨HB5.out,by decide,rfl⟩
            | true =>
              have HNB:Bx (¬headBad ((n - 1) / 2) (rd 0).1):=⟨by
               rw [←HHD.out,←HH.out]
               intro hbad
               rcases hbad with hx | hx | hx
               · rw [←HBK.out] at hx;have:=HB1.out;omega
               · rw [←HU.out] at hx;have:=HU6.out;omega
               · exact hx (hT3.out.1 hT)⟩
              clear hT3
              go_wp2_with fail
              refine hsi.out.mono ?_
              rintro _ _ ⟨rfl,rfl⟩
              go_wp2_with fail
              refine (HT1.out _).mono ?_
              rintro _ w5 ⟨rfl,hb5⟩
              have HJ5:=Bx.mk (HJ4.out.later hb5)
              have HB5:=Bx.mk (HB4.out.trans (hb5.mono HB4.out.size))
              clear hb5 HT1 hsi HJ4 HB4 hex3 c2
              go_upto_region 12 with fail
              obtain ⟨K,hK⟩ : ∃ K,K=pagesFor u:=⟨_,rfl⟩
              have HK:Bx (K=(u+115) / 116∧K≤h):=⟨by have:=HU6.out;unfold pagesFor at hK;omega⟩
              have HKK:=Bx.mk hK
              have hK1000:K≤1000:=by have:=HK.out.2;omega
              clear hK t1 t1b t2 t2b hT
              have e0 : ∀ k:Nat,k≤1000→IntKind.i64.wrap ((k:Int) * 116)=((k * 116:Nat):Int):=fun k hk=>by rw [IntWalk.i64_in _ (by omega)];omega
              obtain ⟨base,hbase⟩ : ∃ base,base=1+bank * h:=⟨_,rfl⟩
              have HBASE:Bx (base=1+bank * h∧base+h≤n):=⟨hbase,by
               have h1:bank * h≤1 * h:=Nat.mul_le_mul_right _ HB1.out
               have h2:=HH.out;have h3:=HS.out;omega⟩
              have HE0:=Bx.mk e0
              clear hbase e0
              go_loopw [2,3,9] (fun v2 v3 v9 wr => ∃ (k:Nat) (s:List Int),k≤K∧v2 = .pointer none∧v3 = .int .i64 0∧v9 = .int .i64 k∧Bx (gatJ rd base k = .ok s∧s.length=116 * k∧Byts s)∧Bx (JS wr jb pp h bank s (.slice none 0 0) false)∧Bx (Below w.heap.size w wr)) (fun _ _ i _=>K - (intOf i).toNat)
              case atStart=>exact ⟨0,[],Nat.zero_le _,rfl,rfl,rfl,⟨rfl,rfl,fun x hx=>by cases hx⟩,HJ5,HB5⟩
              case round =>
               clear HJ5 HB5
               obtain ⟨k,s,hk,rfl,rfl,rfl,HG,HJ,HB⟩:=hrel
               have e0:=HE0.out k (by omega)
               obtain ⟨k6,hk6⟩ : ∃ k6,k6=k * 116:=⟨_,rfl⟩
               rw [←hk6] at e0
               have HK6:=Bx.mk hk6
               by_cases hlt:k<K
               · have hku:k6<u:=by have:=HK.out.1;omega
                 have t0:decide ((k6:Int)<(u:Int))=true:=by simp;omega
                 have t0b:decide (k6<u)=true:=by simpa using hku
                 obtain ⟨pg,hpg⟩ : ∃ pg,pg=base+k:=⟨_,rfl⟩
                 have hpn:pg<n:=by have:=HBASE.out.2;have:=HK.out.2;omega
                 have hpa:=jpage_any wr jb pp h bank s (.slice none 0 0) false HJ.out hh1000 bank k HB1.out (by omega)
                 rw [show 1+bank * h+k=pg by rw [hpg,HBASE.out.1]] at hpa
                 replace hpa:=Bx.mk hpa
                 have hrd:=Bx.mk (HR.out wr HB.out pg hpn)
                 have hdat:=HOK.out pg hpn
                 have HPG:=Bx.mk hpg
                 have Hlt:=Bx.mk hlt
                 have c2:=Bk.cell HJ.out 2 rfl
                 clear hku hlt hpg hpn hk6
                 by_cases her:(rd pg).2=0
                 · obtain ⟨hd1,hd2⟩:=hdat her
                   have HX:Bx (gatJ rd base (k+1) = .ok (s++(rd pg).1)∧(s++(rd pg).1).length=116 * (k+1)∧Byts (s++(rd pg).1)):=⟨by rw [HPG.out];exact gatJ_more HG.out.1 (by rw [←HPG.out];exact her),by rw [List.length_append,HG.out.2.1,hd1];omega,fun x hx=>by
                    rcases List.mem_append.1 hx with h | h
                    · exact HG.out.2.2 x h
                    · exact hd2 x h⟩
                   rw [her] at hrd
                   obtain ⟨x,hx⟩ : ∃ x,x=(rd pg).1:=⟨_,rfl⟩
                   rw [←hx] at hrd HX hd1
                   have z1:(strOfNums x).size=116:=by rw [strOfNums_size];exact hd1
                   have z2:(strOfNums s).size=116 * k:=by rw [strOfNums_size];exact HG.out.2.1
                   have ha:strOfNums s++strOfNums x=strOfNums (s++x):=str_append _ _
                   clear hdat her hd1 hd2 hx
                   go_wp2_with fail
                   refine hpa.out.mono ?_
                   rintro _ _ ⟨rfl,rfl⟩
                   go_upto_region 15 with (go_at_call 27;refine hrd.out.mono ?_;rintro _ w6 ⟨rfl,hb6⟩)
                   have hJ6:=HJ.out.later hb6
                   have c3:=Bk.cell hJ6 3 rfl
                   have f3:=Bk.frozen hJ6 3
                   have HJ7:Bx (JS (w6.setCell ⟨jb,3,none⟩ (.string (strOfNums (s++x)))) jb pp h bank (s++x) (.slice none 0 0) false):=⟨by simpa [JS] using Bk.set hJ6 3 (.string (strOfNums (s++x)))⟩
                   have HB7:Bx (Below w.heap.size w (w6.setCell ⟨jb,3,none⟩ (.string (strOfNums (s++x))))):=⟨(HB.out.trans (hb6.mono HB.out.size)).setCell (by show w.heap.size≤jb;rw [HJB.out];exact Nat.le_refl _) _⟩
                   clear hJ6 hb6 hrd hpa HJ HB c2
                   generalize strOfNums (s++x)=S7 at *
                   generalize strOfNums s=S6 at *
                   generalize strOfNums x=S5 at *
                   go_wp2_with fail
                   go_roundw
                   case rel=>exact ⟨k+1,s++x,by have:=Hlt.out;omega,rfl,rfl,by go_num,HX,HJ7,HB7⟩
                   case measure=>have:=Hlt.out;simp [intOf];omega
                 · have n1:((rd pg).2 != 0)=true:=by simpa using her
                   have n2:((rd pg).2 == 0)=false:=by simpa using her
                   have HF:Bx ((rd pg).2 ≠ 0∧R = .error (rd pg).2):=⟨her,by
                    rw [HRR.out]
                    refine openJ_gat HS.out H0.out HNB.out ?_
                    rw [←HHD.out,←HBK.out,←HH.out,←HU.out,←HKK.out,←HBASE.out.1]
                    refine gatJ_err (k:=k+1) ?_ Hlt.out
                    rw [HPG.out]
                    exact gatJ_fail HG.out.1 (by rw [←HPG.out];exact her)⟩
                   generalize (rd pg).2=er at *
                   clear hdat her
                   go_wp2_with fail
                   refine hpa.out.mono ?_
                   rintro _ _ ⟨rfl,rfl⟩
                   go_upto_region 15 with (go_at_call 27;refine hrd.out.mono ?_;rintro _ w6 ⟨rfl,hb6⟩)
                   have HB6:=Bx.mk (HB.out.trans (hb6.mono HB.out.size))
                   clear hb6 hrd hpa HJ HB c2
                   go_wp2_with fail
                   go_ret2
                   rw [HF.out.2]
                   exact ⟨HB6.out,HF.out.1,rfl⟩
               · obtain rfl:k=K:=by omega
                 have hku : ¬k6<u:=by have:=HK.out.1;omega
                 have t0:decide ((k6:Int)<(u:Int))=false:=by simp;omega
                 have t0b:decide (k6<u)=false:=by simpa using hku
                 have HGK:Bx (gatJ rd (1+hBank (rd 0).1 * ((n - 1) / 2)) (pagesFor (hUsed (rd 0).1)) = .ok s):=⟨by rw [←HHD.out,←HBK.out,←HH.out,←HU.out,←HKK.out,←HBASE.out.1];exact HG.out.1⟩
                 have z2:(strOfNums s).size=116 * k:=by rw [strOfNums_size];exact HG.out.2.1
                 have hus:u≤116 * k:=by omega
                 obtain ⟨s0,hs0⟩ : ∃ s0,s0=s.take u:=⟨_,rfl⟩
                 have hex:(strOfNums s).extract 0 u=strOfNums s0:=by rw [hs0,str_extract];rfl
                 have HS0:Bx (s0=s.take (hUsed (rd 0).1)∧Byts s0∧s0.length≤1000000):=⟨by rw [hs0,←HHD.out,←HU.out],by rw [hs0];exact fun x hx=>HG.out.2.2 x (List.mem_of_mem_take hx),by rw [hs0,List.length_take,HG.out.2.1];omega⟩
                 have b1:(0:Int)≤(u:Int):=by omega
                 have b2:(u:Int)≤((116 * k:Nat):Int):=by omega
                 have b3:(u:Int)≤116 * (k:Int):=by omega
                 have c3:=Bk.cell HJ.out 3 rfl
                 have f3:=Bk.frozen HJ.out 3
                 have HJ8:Bx (JS (wr.setCell ⟨jb,3,none⟩ (.string (strOfNums s0))) jb pp h bank s0 (.slice none 0 0) false):=⟨by simpa [JS] using Bk.set HJ.out 3 (.string (strOfNums s0))⟩
                 have HB8:Bx (Below w.heap.size w (wr.setCell ⟨jb,3,none⟩ (.string (strOfNums s0)))):=⟨HB.out.setCell (by show w.heap.size≤jb;rw [HJB.out];exact Nat.le_refl _) _⟩
                 clear hku HJ HB hs0
                 generalize hS0:strOfNums s0=S0 at *
                 generalize strOfNums s=S6 at *
                 go_upto_region 19 with fail
                 generalize World.setCell wr _ _=w8 at *
                 clear c3 f3 hex b1 b2 b3 t0 t0b e0
                 have c3:=Bk.cell HJ8.out 3 rfl
                 rw [hS0] at c3
                 go_upto_region 21 with fail
                 generalize hW9:World.alloc w8 _=w9
                 have HI9:Bx (JoI w jb w8.heap.size pp h bank s0 s0 [] (.slice none 0 0) w9):=⟨by
                  have hb9:=bl1 hW9
                  have h9:=HB8.out.size
                  have h10:=Bk.lt HJ8.out
                  exact ⟨HJ8.out.later hb9,by rw [←hW9,←hS0];exact blk_new _ _ _ rfl,Ownv.nil _ _ _,HB8.out.trans (hb9.mono h9),by omega,by rw [HJB.out];exact Nat.le_refl _,h9⟩⟩
                 obtain ⟨cb,hcb⟩ : ∃ cb,cb=w8.heap.size:=⟨_,rfl⟩
                 rw [←hcb] at HI9 ⊢
                 clear hW9 hcb c3 HJ8 HB8
                 go_loopw [2,3] (fun v2 v3 wr => ∃ (rest:List Int) (done:List (List Int)) (rv:Value),v2 = .pointer none∧v3 = .int .i64 0∧Bx (CutL s0 rest done)∧Bx (JoI w jb cb pp h bank s0 rest done rv wr)) (fun _ _ wr=>restLen wr cb)
                 case atStart=>exact ⟨s0,[],_,rfl,rfl,⟨CutL.start HS0.out.2.1 HS0.out.2.2⟩,HI9⟩
                 case round =>
                  clear HI9
                  obtain ⟨rest,done,rv,rfl,rfl,HC,HI⟩:=hrel
                  have c0:=Bk.cell HI.out.cut 0 rfl
                  by_cases h0:rest=[]
                  · subst h0
                    have tE:=str_none
                    have HD:=Bx.mk HC.out.done
                    obtain ⟨ra,rc,rfl,-⟩:=HI.out.own.form
                    have c4:=Bk.cell HI.out.js 4 rfl
                    have hsl:(strs done).length=done.length:=strs_length _
                    rw [hsl] at c4
                    by_cases hct:done.length=ct
                    · have HF:Bx (R = .ok (bank,s0,done)):=⟨by
                       rw [HRR.out]
                       have h1:=openJ_ok HS.out H0.out HNB.out HGK.out (by rw [←HS0.out.1];exact HD.out) (by rw [←HHD.out,←HCT.out];exact hct)
                       rw [h1,←HS0.out.1,←HHD.out,←HBK.out]⟩
                      have n1:((done.length:Int) != (ct:Int))=false:=by simp [hct]
                      have n2:((done.length:Int) == (ct:Int))=true:=by simp [hct]
                      have n3:decide ((done.length:Int)=(ct:Int))=true:=by simp [hct]
                      have n4:decide (done.length=ct)=true:=by simp [hct]
                      clear hct
                      generalize strOfNums ([]:List Int)=E at *
                      go_wp2_with fail
                      go_ret2
                      rw [HF.out]
                      exact ⟨HI.out.bel,jb,_,rfl,HI.out.js,HI.out.own,HI.out.ap.2.1⟩
                    · have HF:Bx (R = .error 7):=⟨by
                       rw [HRR.out]
                       exact openJ_cnt HS.out H0.out HNB.out HGK.out (by rw [←HS0.out.1];exact HD.out) (by rw [←HHD.out,←HCT.out];exact hct)⟩
                      have n1:((done.length:Int) != (ct:Int))=true:=by simp;omega
                      have n2:((done.length:Int) == (ct:Int))=false:=by simp;omega
                      have n3:decide ((done.length:Int)=(ct:Int))=false:=by simp;omega
                      have n4:decide (done.length=ct)=false:=by simp;omega
                      clear hct
                      generalize strOfNums ([]:List Int)=E at *
                      go_wp2_with fail
                      go_ret2
                      rw [HF.out]
                      exact ⟨HI.out.bel,by decide,rfl⟩
                  · have tE:=str_full h0
                    have hrl:rest.length≤1000000:=by have:=HC.out.2.2;omega
                    cases hn:nextS rest with
                    | none =>
                      have HF:Bx (R = .error 7):=⟨by
                       rw [HRR.out]
                       exact openJ_cut HS.out H0.out HNB.out HGK.out (by rw [←HS0.out.1];exact HC.out.fail h0 hn)⟩
                      have hnx:=Bx.mk (jnext_no wr cb rest HC.out.2.1 hrl HI.out.cut hn)
                      generalize strOfNums rest=E at *
                      clear h0 hrl hn
                      go_wp2_with fail
                      first | (refine hnx.out.mono ?_) | (rw [enters_of Tryd.func53 (by kernel_rfl) rfl _ _];refine hnx.out.mono ?_)
                      rintro _ _ ⟨rfl,rfl⟩
                      go_wp2_with fail
                      go_ret2
                      rw [HF.out]
                      exact ⟨HI.out.bel,by decide,rfl⟩
                    | some p =>
                      obtain ⟨r,rest'⟩:=p
                      have hlt:=nextS_lt hn
                      have HLT:Bx (restLen wr cb=rest.length∧rest'.length<rest.length):=⟨restLen_of HI.out.cut,hlt⟩
                      have HC2:=Bx.mk (HC.out.step h0 hn)
                      have hnx:=Bx.mk (jnext_yes wr cb rest r rest' HC.out.2.1 hrl HI.out.cut hn)
                      have HI2:=Bx.mk (HI.out.next rest')
                      generalize strOfNums rest=E at *
                      clear h0 hrl hn hlt HI
                      go_wp2_with fail
                      first | (refine hnx.out.mono ?_) | (rw [enters_of Tryd.func53 (by kernel_rfl) rfl _ _];refine hnx.out.mono ?_)
                      rintro _ w10 ⟨rfl,hw10⟩
                      rw [←hw10] at HI2
                      clear hnx hw10 c0
                      have c4:=Bk.cell HI2.out.js 4 rfl
                      have hI3:=HI2.out.later ((Below.refl w10.heap.size w10).alloc (Nat.le_refl _) (.cells #[.string (strOfNums r)] 9))
                      have hown:=hI3.own
                      have hle:=hI3.bel.size
                      have hln:(strs done).length≤1000000000:=by have:=HC.out.2.2;rw [strs_length];omega
                      go_wp2_with (first
                       | (at_builtin
                          refine wpList_append_val rfl _ _ 30 rfl 9 (.string ByteArray.empty) 16 (by omega) Tryd.underlying30 (by kernel_rfl) rfl w.heap.size _ (strs done) rfl hown (.string (strOfNums r)) rfl ⟨w10.heap.size,0,none⟩ 1 rfl (cell_new _ _ _) hln hle ?_
                          intro v1 w11 hown1 hg1 _
                          obtain ⟨ra1,rc1,rfl,-⟩:=hown1.form
                          obtain ⟨hj11,hI11⟩:=hI3.app hg1 hown1
                          have f4:=Bk.frozen hj11 4
                          have c4b:=Bk.cell hj11 4 rfl
                          have HI12:=Bx.mk hI11
                          have HLT2:Bx (restLen (w11.setCell ⟨jb,4,none⟩ _) cb<restLen wr cb):=⟨by rw [restLen_of hI11.cut,HLT.out.1];exact HLT.out.2⟩
                          have hlen1:(strs done++[Value.string (strOfNums r)]).length=(strs done).length+1:=by simp
                          rw [hlen1] at HI12 HLT2
                          clear hj11 hI11 hI3 hown1 hg1 hown hle hln c4 HI2 hlen1))
                      go_roundw
                      case rel=>exact ⟨rest',_,_,rfl,rfl,HC2,HI12⟩
                      case measure=>exact HLT2.out
end
section
open Go.RowKit Go.Sort Go.Maps
attribute [local go_sem] Oper.semAt_some
def chunkP (s:List Int) (k:Nat):List Int:=(s.drop (k * 116)).take 116++zerosP (116 - ((s.drop (k * 116)).take 116).length)
theorem chunk_len (s:List Int) (k:Nat):(chunkP s k).length=116:=by unfold chunkP zerosP;simp;omega
theorem chunk_byts {s:List Int} (h:Byts s) (k:Nat):Byts (chunkP s k):=fun x hx=>by
 rcases List.mem_append.1 hx with hx | hx
 · exact h x (List.mem_of_mem_drop (List.mem_of_mem_take hx))
 · unfold zerosP at hx;rw [List.mem_replicate] at hx;omega
theorem chunk_at {s:List Int} {j:Nat} (h:j<s.length):(chunkP s (j / 116))[j % 116]? = s[j]? := by
 unfold chunkP
 have hl:j % 116<((s.drop (j / 116 * 116)).take 116).length:=by rw [List.length_take,List.length_drop];omega
 rw [List.getElem?_append_left hl,List.getElem?_take,if_pos (by omega),List.getElem?_drop]
 congr 1;omega
def chgJ (h bank:Nat) (s:List Int) (fr:Nat):List (Nat × List Int):=(List.range' (fr / 116) (pagesFor s.length - fr / 116)).map fun k=>(1+bank * h+k,chunkP s k)
theorem chgJ_len (h bank:Nat) (s:List Int) (fr:Nat):(chgJ h bank s fr).length=pagesFor s.length - fr / 116:=by simp [chgJ]
theorem chgJ_at {h bank:Nat} {s:List Int} {fr i:Nat} (hi:i<pagesFor s.length - fr / 116):(chgJ h bank s fr)[i]? = some (1+bank * h+(fr / 116+i),chunkP s (fr / 116+i)):=by
 unfold chgJ
 rw [List.getElem?_map,List.getElem?_range' hi]
 simp
theorem chgJ_succ {h bank:Nat} {s:List Int} {fr i:Nat} (hi:i<pagesFor s.length - fr / 116):(chgJ h bank s fr).take (i+1)=(chgJ h bank s fr).take i++[(1+bank * h+(fr / 116+i),chunkP s (fr / 116+i))]:=by
 have hl:i<(chgJ h bank s fr).length:=by rw [chgJ_len];exact hi
 rw [List.take_succ_eq_append_getElem hl]
 have:=chgJ_at (h:=h) (bank:=bank) hi
 rw [List.getElem?_eq_getElem hl] at this
 rw [Option.some.inj this]
abbrev cgArgs (x:Nat × List Int):Array Value:=#[.agg #[.int .i64 (x.1:Int),.string (strOfNums x.2)]]
theorem rep_any (n:Nat) (hn:n≤1000) (W:World):Calls Tryd.prog 62 #[.string ⟨#[0]⟩,.int .i64 (n:Int)] W fun e w'=>e = .returned (.string (strOfNums (zerosP n)))∧Below W.heap.size W w':=by
 match n,hn with
 | 0,_=>exact (Tryd.strings_Repeat_zero ⟨#[0]⟩ W).mono fun e w' h=>⟨by rw [h.1];rfl,h.2 ▸ Below.refl _ _⟩
 | 1,_=>exact (Tryd.strings_Repeat_one ⟨#[0]⟩ W).mono fun e w' h=>⟨by rw [h.1];rfl,h.2 ▸ Below.refl _ _⟩
 | n + 2, hn =>
   have hs:(ByteArray.mk #[(0:UInt8)]).size=1:=rfl
   have:=Tryd.strings_Repeat_main ⟨#[0]⟩ (n+2) W (by omega) (by omega) (by rw [hs];omega) (by rw [hs];omega)
   rw [rep_zeros] at this
   exact this
set_option maxRecDepth 100000 in
set_option maxHeartbeats 1000000 in
theorem jpage_cell (w:World) (jp h:Nat) (c1:w.cell? ⟨jp,1,none⟩=some (.int .i64 (h:Int))) (hh:h≤1000) (b k:Nat) (hb:b≤1) (hk:k≤1000) :
 Calls Tryd.prog 52 #[.pointer (some ⟨jp,0,none⟩),.int .i64 (b:Int),.int .i64 (k:Int)] w fun e w'=>e = .returned (.int .i64 ((1+b * h+k:Nat):Int))∧w=w':=by
 obtain ⟨x,hx⟩ : ∃ x,x=b * h:=⟨_,rfl⟩
 have hx1:x≤1000:=by
  have:b * h≤1 * h:=Nat.mul_le_mul_right _ hb
  omega
 have e1:IntKind.i64.wrap ((b:Int) * (h:Int))=(x:Int):=by
  rw [hx] at hx1 ⊢
  rw [IntWalk.i64_in _ (by rw [←Int.natCast_mul];omega)]
  exact (Int.natCast_mul b h).symm
 obtain ⟨y,hy⟩ : ∃ y,y=1+x:=⟨_,rfl⟩
 have e2:IntKind.i64.wrap (1+(x:Int))=(y:Int):=by rw [IntWalk.i64_in _ (by omega)];omega
 have e3:IntKind.i64.wrap ((y:Int)+(k:Int))=((1+x+k:Nat):Int):=by rw [IntWalk.i64_in _ (by omega)];omega
 rw [←hx]
 generalize 1+x+k=z at *
 clear hx hx1 hy
 go_enter Tryd.func52,Tryd.ntmps52
 go_wp2_with fail
 go_ret
 exact ⟨rfl,rfl⟩
set_option maxRecDepth 100000 in
set_option maxHeartbeats 1000000 in
theorem jchanged_any (w:World) (jp bank fr:Nat) (S:ByteArray) :
 Calls Tryd.prog 61 #[.pointer (some ⟨jp,0,none⟩),.int .i64 (bank:Int),.string S,.int .i64 (fr:Int)] w fun e w' =>
  e = .returned (.func (.func 82) #[] #[.pointer (some ⟨w.heap.size+1+1+1,0,none⟩),.pointer (some ⟨w.heap.size+1+1,0,none⟩),.pointer (some ⟨w.heap.size,0,none⟩),.pointer (some ⟨w.heap.size+1,0,none⟩)])∧Below w.heap.size w w'∧w'.heap.size=w.heap.size+4 ∧
  Bk w' w.heap.size #[.pointer (some ⟨jp,0,none⟩)] 25∧Bk w' (w.heap.size+1) #[.int .i64 (bank:Int)] 3∧Bk w' (w.heap.size+1+1) #[.string S] 9∧Bk w' (w.heap.size+1+1+1) #[.int .i64 (fr:Int)] 3:=by
 go_enter Tryd.func61,Tryd.ntmps61
 go_wp2_with fail
 go_ret
 refine ⟨rfl,((((Below.refl _ _).alloc (Nat.le_refl _) _).alloc (by simp) _).alloc (by simp;omega) _).alloc (by simp;omega) _,by simp,?_,?_,?_,?_⟩
 · exact blk_old (blk_old (blk_old (blk_new _ _ _ rfl)))
 · exact blk_old (blk_old (blk_new _ _ _ (by simp)))
 · exact blk_old (blk_new _ _ _ (by simp))
 · exact blk_new _ _ _ (by simp)
end
section
structure DoneJ (n t0:Nat) (im0:List (List Int)) (done:List (Nat × List Int)) (t:Nat) (im:List (List Int)):Prop where
 inv:PInv n t im
 few:t0≤t∧t≤t0+done.length
 hit : ∀ x∈done,datD im x.1=x.2
 off : ∀ i,(∀ x∈done,x.1 ≠ i)→datD im i=datD im0 i
theorem DoneJ.start {n t:Nat} {im:List (List Int)} (h:PInv n t im):DoneJ n t im [] t im:=⟨h,⟨Nat.le_refl _,Nat.le_refl _⟩,fun x hx=>(by cases hx),fun _ _=>rfl⟩
theorem DoneJ.next {n t0 t:Nat} {im0 im:List (List Int)} {done b:List (Nat × List Int)} (h:DoneJ n t0 im0 done t im) (hb:BatchOk n b) (ht:t+1≤2 ^ 30) (hap : ∀ x∈done,∀ y∈b,y.1 ≠ x.1):DoneJ n t0 im0 (done++b) (t+1) (wrote (t+1) b im):=by
 have h1:=hb.one
 have h2:=h.few
 refine ⟨h.inv.write hb ht,by rw [List.length_append];omega,fun x hx=>?_,fun i hi=>?_⟩
 · rcases List.mem_append.1 hx with hx | hx
   · rw [datD_off hb (fun y hy=>hap x hx y hy)]
     exact h.hit x hx
   · exact datD_hit h.inv hb hx _
 · rw [datD_off hb (fun y hy=>hi y (List.mem_append_right _ hy))]
   exact h.off i fun x hx=>hi x (List.mem_append_left _ hx)
theorem chgJ_mem {h bank fr:Nat} {s:List Int} {x:Nat × List Int} (hx:x∈chgJ h bank s fr) : ∃ k,x=(1+bank * h+k,chunkP s k)∧fr / 116≤k∧k<pagesFor s.length:=by
 unfold chgJ at hx
 obtain ⟨k,hk,rfl⟩:=List.mem_map.1 hx
 rw [List.mem_range'_1] at hk
 exact ⟨k,rfl,hk.1,by omega⟩
theorem chgJ_sorted (h bank fr:Nat) (s:List Int):((chgJ h bank s fr).map (·.1)).Pairwise (· < ·):=by
 unfold chgJ
 rw [List.map_map,List.pairwise_map]
 refine List.Pairwise.imp ?_ (List.pairwise_lt_range' (s:=fr / 116) (n:=pagesFor s.length - fr / 116))
 intro a b hab
 simp only [Function.comp]
 omega
theorem chgJ_low {nn h bank fr:Nat} {s:List Int} (hh:h=(nn - 1) / 2∧1≤h∧nn≤200) (hbk:bank≤1) (hsl:s.length≤h * 116) {x:Nat × List Int} (hx:x∈chgJ h bank s fr):x.1+17<nn+17:=by
 have hbh:bank * h≤1 * h:=Nat.mul_le_mul_right _ hbk
 obtain ⟨k,rfl,_,hk⟩:=chgJ_mem hx
 unfold pagesFor at hk
 simp only
 omega
theorem chgJ_data {h bank fr:Nat} {s:List Int} (hs:Byts s) {x:Nat × List Int} (hx:x∈chgJ h bank s fr):x.2.length=116∧Byts x.2:=by
 obtain ⟨k,rfl,_,_⟩:=chgJ_mem hx
 exact ⟨chunk_len _ _,chunk_byts hs _⟩
theorem chgJ_batch {nn h bank fr:Nat} {s:List Int} (hh:h=(nn - 1) / 2∧1≤h) (hbk:bank≤1) (hs:Byts s) (hsl:s.length≤h * 116) {a b c:List (Nat × List Int)} (he:chgJ h bank s fr=a++b++c) (h1:1≤b.length) (h16:b.length≤16):BatchOk (nn+17) b:=by
 have hbh:bank * h≤1 * h:=Nat.mul_le_mul_right _ hbk
 have hin : ∀ x∈b,x∈chgJ h bank s fr:=fun x hx=>by rw [he];exact List.mem_append_left _ (List.mem_append_right _ hx)
 refine ⟨h1,h16,fun x hx=>?_,fun x hx=>?_,?_⟩
 · obtain ⟨k,rfl,_,hk⟩:=chgJ_mem (hin x hx)
   unfold pagesFor at hk
   simp only
   omega
 · obtain ⟨k,rfl,_,_⟩:=chgJ_mem (hin x hx)
   exact ⟨chunk_len _ _,chunk_byts hs _⟩
 · have:=chgJ_sorted h bank fr s
   rw [he,List.map_append,List.map_append] at this
   exact (List.pairwise_append.1 (List.pairwise_append.1 this).1).2.1
theorem headP_byts {bank used cnt:Nat}:Byts (headP bank used cnt):=by
 have hb : ∀ n k,Byts (bytesP n k):=fun n k x hx=>by
  unfold bytesP at hx
  obtain ⟨i,_,rfl⟩:=List.mem_map.1 hx
  omega
 intro x hx
 unfold headP at hx
 rcases List.mem_append.1 hx with hx | hx
 · rcases List.mem_append.1 hx with hx | hx
   · rcases List.mem_append.1 hx with hx | hx
     · exact hb _ _ x hx
     · exact hb _ _ x hx
   · exact hb _ _ x hx
 · unfold zerosP at hx;rw [List.mem_replicate] at hx;omega
theorem chgJ_last {nn h bank fr:Nat} {s:List Int} (hh:h=(nn - 1) / 2∧1≤h) (hbk:bank≤1) (hs:Byts s) (hsl:s.length≤h * 116) {a b:List (Nat × List Int)} (he:chgJ h bank s fr=a++b) (h15:b.length≤15) (used cnt:Nat):BatchOk (nn+17) ((0,headP bank used cnt)::b):=by
 have hin : ∀ x∈b,x∈chgJ h bank s fr:=fun x hx=>by rw [he];exact List.mem_append_right _ hx
 refine ⟨by simp,by simp;omega,fun x hx=>?_,fun x hx=>?_,?_⟩
 · rcases List.mem_cons.1 hx with rfl | hx
   · simp only;omega
   · by_cases h0:b=[]
     · subst h0;cases hx
     · exact (chgJ_batch hh hbk hs hsl (a:=a) (b:=b) (c:=[]) (by rw [he,List.append_nil]) (List.length_pos_iff.2 h0) (by omega)).low x hx
 · rcases List.mem_cons.1 hx with rfl | hx
   · exact ⟨headP_len _ _ _,headP_byts⟩
   · obtain ⟨k,rfl,_,_⟩:=chgJ_mem (hin x hx)
     exact ⟨chunk_len _ _,chunk_byts hs _⟩
 · rw [List.map_cons,List.pairwise_cons]
   have:=chgJ_sorted h bank fr s
   rw [he,List.map_append] at this
   refine ⟨fun y hy=>?_,(List.pairwise_append.1 this).2.1⟩
   obtain ⟨x,hx,rfl⟩:=List.mem_map.1 hy
   obtain ⟨k,rfl,_,_⟩:=chgJ_mem (hin x hx)
   simp only;omega
theorem chgJ_apart {h bank fr:Nat} {s:List Int} {a b c:List (Nat × List Int)} (he:chgJ h bank s fr=a++b++c) : ∀ x∈a,∀ y∈b,y.1 ≠ x.1:=fun x hx y hy=>by
 have:=chgJ_sorted h bank fr s
 rw [he,List.map_append,List.map_append] at this
 have:=(List.pairwise_append.1 (List.pairwise_append.1 this).1).2.2 x.1 (List.mem_map.2 ⟨x,hx,rfl⟩) y.1 (List.mem_map.2 ⟨y,hy,rfl⟩)
 omega
theorem chgJ_pos {h bank fr:Nat} {s:List Int} {x:Nat × List Int} (hx:x∈chgJ h bank s fr):x.1 ≠ 0:=by
 obtain ⟨k,rfl,_,_⟩:=chgJ_mem hx
 simp only;omega
theorem InvJ.wrote {nn h bank bk fr n t0 t:Nat} {s0 s:List Int} {L0 L:List (List Int)} {im0 im:List (List Int)} (hI:InvJ nn h bank s0 L0 im0) {done:List (Nat × List Int)} (hD:DoneJ n t0 im0 done t im) (hin : ∀ x,x∈done ↔ x=(0,headP bk s.length L.length)∨x∈chgJ h bk s fr)
 (hs:s=strmP L) (hsh : ∀ r∈L,r.length≤8000) (hf:s.length≤h * 116) (hbk:bk≤1) (hfr:fr=0∨(bk=bank∧fr≤s0.length ∧ ∀ j,j<fr→s[j]? = s0[j]?)):InvJ nn h bk s L im:=by
 refine ⟨hD.hit (0,headP bk s.length L.length) ((hin _).2 (.inl rfl)),fun j hj=>?_,hs,hsh,hf,hbk,hI.half⟩
 by_cases hk:fr / 116≤j / 116
 · have hm:(1+bk * h+j / 116,chunkP s (j / 116))∈chgJ h bk s fr:=by
    unfold chgJ
    refine List.mem_map.2 ⟨j / 116,List.mem_range'_1.2 ⟨hk,?_⟩,rfl⟩
    unfold pagesFor;omega
   rw [hD.hit _ ((hin _).2 (.inr hm))]
   exact chunk_at hj
 · have hjf:j<fr:=by omega
   rcases hfr with h0 | ⟨rfl,h1,h2⟩
   · omega
   · rw [hD.off _ (fun x hx=>?_),hI.bytes j (by omega),h2 j hjf]
     rcases (hin x).1 hx with rfl | hx
     · simp only;omega
     · obtain ⟨k,rfl,hk1,_⟩:=chgJ_mem hx
       simp only;omega
end
end Go.Proofs.YtajhkncolbgkbaaDoor
