/- Jre, Jod, Pco, Pri, Jbg: joined by program, for one claim. -/
import Derived.Test.YtajhkncolbgkbaaDoorM21
import Derived.Test.YtajhkncolbgkbaaDoorM17
import Derived.Test.YtajhkncolbgkbaaDoorM8
import Derived.Test.YtajhkncolbgkbaaDoorM4
import Derived.Laws.ResultCell
import Derived.Test.YtajhkncolbgkbaaDoorM18
import Derived.Test.YtajhkncolbgkbaaDoorM15
import Derived.Test.YtajhkncolbgkbaaDoorM7
import Derived.Deep.RegionLaw
import Derived.Maps.AppendAt
import Derived.Deep.AppendLies
set_option linter.unusedVariables false
set_option linter.unusedSimpArgs false
namespace Go.Proofs.YtajhkncolbgkbaaDoor
section
open Go.RowKit Go.Sort Go.Maps
section
variable {F:Nat→Prop} {B:Nat} {W:World} {dp g mb cap pp jp nn h bank:Nat} {bv:Value} {t m:Nat} {im:List (List Int)} {s:List Int} {L:List (List Int)}
set_option maxRecDepth 100000 in
set_option maxHeartbeats 4000000 in
theorem jreplace_any (hJ:JD F B W dp g mb cap pp jp nn h bank bv t m im s L) (hF : ∀ k,F k→k<W.heap.size) (hm:m+5000<1000000) (ht:t+200<1073741824) (a:Option Addr) (c:Nat) (L2:List (List Int)) (hs2:Slv W a (strs L2)) (hL2:L2.length≤100000) (hr2 : ∀ r∈L2,r.length≤60000) (ht2:(strmP L2).length≤1000000) (hb2 : ∀ r∈L2,Byts r) :
 Calls Tryd.prog 12 #[.pointer (some ⟨jp,0,none⟩),.slice a L2.length c] W fun e w'=>e = .returned (.int .i64 (jchkV false h (strmP L2) L2))∧ApPost F B dp g mb cap pp jp nn h bv t m L L2 (jchkV false h (strmP L2) L2) (.int .i64 0) W e w':=by
 obtain ⟨hsl,hLl,hh99,hsb,hsm⟩:=hJ.small
 obtain ⟨ra,rc,hj,hs,hro⟩:=hJ.js
 have HD:=Bx.mk hJ
 have HJS:=Bx.mk hj
 have HF:=Bx.mk hF
 have HJWl:Bx (∀ k,JW jp pp dp g mb k→k<W.heap.size):=⟨fun k hk=>by
  have h3:=hJ.st.dk.lt
  rcases hk with rfl | rfl | rfl | rfl | rfl
  · exact Bk.lt hj
  · exact Bk.lt hJ.st.ps
  · exact h3.1
  · exact h3.2.1
  · exact h3.2.2⟩
 have HMT:=Bx.mk (And.intro hm ht)
 obtain ⟨er,her⟩ : ∃ er,er=jchkV false h (strmP L2) L2:=⟨_,rfl⟩
 rw [←her]
 have HER:=Bx.mk her
 obtain ⟨s1,hs1⟩ : ∃ s1,s1=strmP L2:=⟨_,rfl⟩
 have HS1:=Bx.mk hs1
 have HB1:=Bx.mk (show Byts s1 by rw [hs1];exact strm_byts hb2)
 have HS2:=Bx.mk hs2
 have HB2:=Bx.mk hb2
 have hstr:=Bx.mk (jstream_any a c L2 W hs2 hL2 hr2 ht2)
 rw [←hs1] at hstr
 have hck:=Bx.mk fun (W':World) (hb:Below W.heap.size W W')=>jcheck_any W' jp pp h bank s (.slice ra L.length rc) false (hj.later hb) (by omega) s1 a c L2 (hs2.below hb) hL2 (by rw [hs1];exact ht2)
 rw [hs1,←her,←hs1] at hck
 have HLL:=Bx.mk (And.intro hL2 hh99)
 obtain ⟨n,hn⟩ : ∃ n,n=L2.length:=⟨_,rfl⟩
 have HN:=Bx.mk hn
 rw [←hn] at hstr hck ⊢
 obtain ⟨bk,hbk⟩ : ∃ bk,bk=1 - bank:=⟨_,rfl⟩
 have hb1:=hJ.inj.bank1
 have ebk:IntKind.i64.wrap (1 - (bank:Int))=(bk:Int):=by rw [IntWalk.i64_in _ (by omega)];omega
 have HBK:Bx (bk≤1):=⟨by omega⟩
 clear hJ hF hm ht hsl hLl hsb hsm hj hs hro her hs1 hn hh99 hs2 hL2 hr2 ht2 hb2 hbk hb1
 go_enter Tryd.func12,Tryd.ntmps12
 go_upto_region 2 with (go_at_call 32;refine hstr.out.mono ?_;rintro _ w1 ⟨rfl,hb1⟩)
 have HBB:=Bx.mk hb1
 have hck1:=Bx.mk (hck.out w1 hb1)
 clear hb1 hstr hck
 go_upto_region 3 with (go_at_call 33;refine hck1.out.mono ?_;rintro _ wq ⟨rfl,hq⟩;have hq2:w1=wq:=hq.symm;subst hq2)
 clear hck1
 by_cases h0:er=0
 · have n1:(er != 0)=false:=by simp [h0]
   have n2:(er == 0)=true:=by simp [h0]
   have H0:=Bx.mk h0
   clear h0
   go_upto_region 5 with fail
   have hcl:=Bx.mk fun (wx:World) (hw:Below w1.heap.size w1 wx)=>(show Calls Tryd.prog 35 #[.slice a n c] wx fun e w' => ∃ v,e = .returned v∧Below wx.heap.size wx w'∧MoR w1.heap.size (strs L2) v w' from by
    have hb:=HBB.out.trans (hw.mono HBB.out.size)
    have h0:=jclone_any a c L2 wx (HS2.out.below hb) (by have:=HLL.out;omega)
    rw [←HN.out] at h0
    refine h0.mono fun e w' h=>?_
    obtain ⟨v,h1,h2,h3⟩:=h
    exact ⟨v,h1,h2,h3.base hw.size⟩)
   have hjl:=Bx.mk fun (wx:World) (hw:Below w1.heap.size w1 wx)=>(show JS wx jp pp h bank s (.slice ra L.length rc) false from (HJS.out.later HBB.out).later hw)
   have hsn:(strs L2).length=n:=by rw [strs_length,←HN.out]
   have HSN:=Bx.mk hsn
   clear hsn n1 n2
   refine wp_region_relT 9 (fun ii v w'=>match ii with
    | 0=>v = .pointer (some ⟨jp,0,none⟩)
    | 1=>v = .pointer (some ⟨jp,0,none⟩)
    | 2=>v = .pointer (some ⟨jp,0,none⟩)
    | 3=>v = .pointer (some ⟨jp,2,none⟩)
    | 4=>v = .int .i64 (bank:Int)
    | 5=>v = .int .i64 (bk:Int)
    | 6=>v = .string (strOfNums s1)
    | 7=>v = .slice a n c
    | _=>MoR w1.heap.size (strs L2) v w') (by kernel_rfl) (by kernel_rfl) 26 (by kernel_rfl) (by rfl) ?_ ?_ ?_
   · intro ii hi v u1 u2 hb h
     match ii,hi with
     | 0,_=>exact h
     | 1,_=>exact h
     | 2,_=>exact h
     | 3,_=>exact h
     | 4,_=>exact h
     | 5,_=>exact h
     | 6,_=>exact h
     | 7,_=>exact h
     | 8,_=>exact Ownv.below h hb
   · intro ii o hi ho ρ wx hb hc1 hc2 hc3 hk
     match ii,hi with
     | 0, _ =>
       obtain rfl:=Option.some.inj ho
       have g0:ρ (.tmp 0) = .pointer (some ⟨jp,0,none⟩):=hk 0 (by simp [Op.operands,Call.operands])
       clear hk hb HD HJS HS2 HF hcl hjl
       go_simp
       exact Below.refl _ _
     | 1, _ =>
       obtain rfl:=Option.some.inj ho
       have g0:ρ (.tmp 0) = .pointer (some ⟨jp,0,none⟩):=hk 0 (by simp [Op.operands,Call.operands])
       clear hk hb HD HJS HS2 HF hcl hjl
       go_simp
       exact Below.refl _ _
     | 2, _ =>
       obtain rfl:=Option.some.inj ho
       have g0:ρ (.tmp 17) = .pointer (some ⟨jp,0,none⟩):=hk 17 (by simp [Op.operands,Call.operands])
       clear hk hb HD HJS HS2 HF hcl hjl
       go_simp
       exact Below.refl _ _
     | 3, _ =>
       obtain rfl:=Option.some.inj ho
       have g0:ρ (.tmp 18) = .pointer (some ⟨jp,0,none⟩):=hk 18 (by simp [Op.operands,Call.operands])
       clear hk hb HD HJS HS2 HF hcl hjl
       go_simp
       exact Below.refl _ _
     | 4, _ =>
       obtain rfl:=Option.some.inj ho
       have g0:ρ (.tmp 19) = .pointer (some ⟨jp,2,none⟩):=hk 19 (by simp [Op.operands,Call.operands])
       have zz:=Bk.cell (hjl.out wx hb) 2 rfl
       clear hk hb HD HJS HS2 HF hcl hjl
       go_simp
       exact Below.refl _ _
     | 5, _ =>
       obtain rfl:=Option.some.inj ho
       have g0:ρ (.tmp 20) = .int .i64 (bank:Int):=hk 20 (by simp [Op.operands,Call.operands])
       clear hk hb HD HJS HS2 HF hcl hjl
       go_simp
       exact Below.refl _ _
     | 6, _ =>
       obtain rfl:=Option.some.inj ho
       have g0:ρ (.tmp 5) = .string (strOfNums s1):=hk 5 (by simp [Op.operands,Call.operands])
       clear hk hb HD HJS HS2 HF hcl hjl
       go_simp
       exact Below.refl _ _
     | 7, _ =>
       obtain rfl:=Option.some.inj ho
       have g0:ρ (.tmp 1) = .slice a n c:=hk 1 (by simp [Op.operands,Call.operands])
       clear hk hb HD HJS HS2 HF hcl hjl
       go_simp
       exact Below.refl _ _
     | 8, _ =>
       obtain rfl:=Option.some.inj ho
       have g0:ρ (.tmp 23) = .slice a n c:=hk 23 (by simp [Op.operands,Call.operands])
       have h4:=hcl.out wx hb
       have H4:=Bx.mk h4
       clear h4
       clear hk hb HD HJS HS2 HF hcl hjl
       go_simp
       all_goals exact H4.out
   · intro vs w3 hlen hb hR
     match vs,hlen with
     | [v0, v1, v2, v3, v4, v5, v6, v7, v8], _ =>
       have r0:v0 = .pointer (some ⟨jp,0,none⟩):=hR 0 v0 rfl
       have r1:v1 = .pointer (some ⟨jp,0,none⟩):=hR 1 v1 rfl
       have r2:v2 = .pointer (some ⟨jp,0,none⟩):=hR 2 v2 rfl
       have r3:v3 = .pointer (some ⟨jp,2,none⟩):=hR 3 v3 rfl
       have r4:v4 = .int .i64 (bank:Int):=hR 4 v4 rfl
       have r5:v5 = .int .i64 (bk:Int):=hR 5 v5 rfl
       have r6:v6 = .string (strOfNums s1):=hR 6 v6 rfl
       have r7:v7 = .slice a n c:=hR 7 v7 rfl
       have r8:MoR w1.heap.size (strs L2) v8 w3:=hR 8 v8 rfl
       clear hR
       subst r0 r1 r2 r3 r4 r5 r6 r7
       obtain ⟨ra3,rc3,rfl,hs3⟩:=Ownv.form r8
       rw [HSN.out] at r8 ⊢
       have hb3:=HBB.out.trans (hb.mono HBB.out.size)
       have HD3:=Bx.mk (HD.out.later hb3)
       have HJ3:=HJS.out.later hb3
       have HS3:=Bx.mk hs3
       have HOWN3:=Bx.mk r8
       have HB3:Bx (Below W.heap.size W w3∧W.heap.size≤w1.heap.size):=⟨hb3,HBB.out.size⟩
       have hfit:s1.length≤h * 116∧longR L2=false:=by
        have h1:=HER.out
        rw [H0.out] at h1
        unfold jchkV at h1
        rw [←HS1.out,if_neg (by decide)] at h1
        by_cases hx:longR L2=true
        · rw [if_pos hx] at h1;cases h1
        · rw [if_neg hx] at h1
          by_cases hy:h * 116<s1.length
          · rw [if_pos hy] at h1;cases h1
          · exact ⟨by omega,by simpa using hx⟩
       have HFIT:=Bx.mk hfit
       have hwr:=Bx.mk (jwrite_any w3 jp pp h bank bk 0 nn s s1 (.slice ra L.length rc) B dp g mb cap m t bv im HJ3 HD3.out.st HD3.out.inv HD3.out.ne ⟨HD3.out.inj.half.1,HD3.out.inj.half.2⟩ HBK.out HB1.out hfit.1 (Nat.zero_le _) HMT.out.1 HMT.out.2 ra3 n rc3 (by have:=HLL.out;have:=HN.out;omega))
       clear hfit HJ3 r8 hs3 hb hb3 hcl hjl HJS HD
       simp only [puts,List.take_succ_cons,List.take_zero,List.drop_succ_cons,List.drop_zero,List.map_cons,List.map_nil,List.zip_cons_cons,List.zip_nil_right,List.foldl_cons,List.foldl_nil]
       go_wp2_with (go_at_call 34;refine hwr.out.mono ?_;rintro _ w4 ⟨rfl,hpost⟩;have HPOST:=Bx.mk hpost;clear hpost hwr)
       go_ret
       obtain ⟨done,t',m',im',hD,hin,hdl,hm',hst',hj',hc'⟩:=HPOST.out
       refine ⟨by rw [H0.out];rfl,.inr ⟨H0.out,t',m',im',s1,bk,?_,?_,⟨hst',hD.inv,⟨ra3,rc3,?_,?_,?_⟩,HD3.out.ne,HD3.out.far,?_,HB2.out⟩,?_⟩⟩
       · have:=hD.few;have:=HLL.out;omega
       · have:=HLL.out;omega
       · rw [←HN.out]
         exact hj'
       · refine slv_chg HS3.out hc' fun b hb hS=>?_
         obtain ⟨q1,q2,_⟩:=own_at HOWN3.out b.block (by rw [hb];rfl)
         have:=HJWl.out _ hS
         have:=HB3.out.2
         omega
       · intro b hb
         obtain ⟨q1,q2,_⟩:=own_at HOWN3.out b.block (by rw [hb];rfl)
         have h2:=HB3.out.2
         refine ⟨fun hS=>?_,fun hS=>?_,Nat.lt_of_lt_of_le q2 hc'.size⟩
         · have:=HF.out _ hS;omega
         · have:=HJWl.out _ hS;omega
       · refine InvJ.wrote HD3.out.inj hD (fun x=>?_) HS1.out (fun x hx=>?_) HFIT.out.1 HBK.out (.inl rfl)
         · rw [←HN.out]
           exact hin x
         · have h1:=HFIT.out.2
           unfold longR at h1
           rw [List.any_eq_false] at h1
           have:=h1 x hx
           simpa using this
       · exact (Chg.ofBelow HB3.out.1 _).trans hc' fun _ _ h=>h
 · have n1:(er != 0)=true:=by simpa using h0
   have n2:(er == 0)=false:=by simpa using h0
   have H0:=Bx.mk h0
   clear h0
   go_wp2_with fail
   go_ret
   exact ⟨rfl,.inl ⟨H0.out,HBB.out⟩⟩
end
end
section
open Go.RowKit Go.Sort Go.Maps
theorem readP_ok {d:Dk} (h:DkOk d) {cl:Bool} {i:Int} (h0:(readP d cl i).2=0):(readP d cl i).1.length=116∧Byts (readP d cl i).1:=by
 unfold readP at h0 ⊢
 split at h0
 · simp at h0
 rename_i hcl
 split at h0
 · simp at h0
 rename_i hi
 split at h0
 · rename_i hne;exact absurd h0 hne
 rename_i he
 split at h0
 · rename_i hg
   rw [if_neg hcl,if_neg hi,if_neg he,if_pos hg]
   have hl:=hg.1
   refine ⟨by unfold dataP;simp only [List.length_take,List.length_drop];omega,fun x hx=>?_⟩
   have hx2:=List.mem_of_mem_drop (List.mem_of_mem_take hx)
   unfold Dk.read at hx2 he
   split at hx2
   · cases hx2
   · split at hx2
     · cases hx2
     · cases hp:d.p[(17+i).toNat]? with
       | none=>rw [hp] at hx2;cases hx2
       | some y =>
         rw [hp] at hx2
         exact (h.pages y (List.mem_of_getElem? hp)).now.2 x hx2
 · simp at h0
set_option maxRecDepth 100000 in
set_option maxHeartbeats 2000000 in
theorem opened_any {B:Nat} {W:World} {dp g mb cap m:Nat} {d:Dk} (hd:DkIs W dp g mb cap m d) (hlo : ∀ k,In3 dp g mb k→B≤k) (h17:17<d.p.length) (ho:d.off=false) (hm:m+20<1000000) {d':Dk} (hr:d.run (replayP (nowI d))=(d',0)) (hB:B≤W.heap.size) {n:Nat} (hdl:d'.p.length=n+17) (hn:1≤n∧n≤200) :
 Calls Tryd.prog 15 #[.pointer (some ⟨dp,0,none⟩)] W fun e w' => ∃ pq bv Wm,St B Wm dp g mb cap pq (m+20) d' (mxP (nowI d)) bv false∧W.heap.size≤pq∧Chg (In3 dp g mb) W Wm∧JOpen Wm pq ((n - 1) / 2) (openJ n (fun i=>readP d' false (i:Int))) e w':=by
 have hop:=Bx.mk (St.open_ hd hlo h17 ho hm hr hB)
 have HDL:=Bx.mk hdl
 have HN:=Bx.mk hn
 clear hd hlo h17 ho hm hr hB hdl hn
 go_enter Tryd.func15,Tryd.ntmps15
 go_upto_region 4 with (go_at_call 24;refine hop.out.mono ?_;rintro _ w1 ⟨pq,bv,rfl,hst,-,hpq,hc⟩)
 have HPQ:=Bx.mk hpq
 clear hpq
 have HS:=Bx.mk hst
 have HC:=Bx.mk hc
 have hjo:=Bx.mk (jopen_any w1 pq n HN.out (fun i=>readP d' false (i:Int)) (fun k _ h0=>readP_ok HS.out.dk.ok h0) ⟨fun W' hb=>(HS.out.later hb).len (by rw [HDL.out];omega)⟩ ⟨fun W' hb k hk=>(HS.out.later hb).read (k:Int) (by have:=HN.out;omega) rfl⟩)
 clear hst hc hop
 go_wp2_with fail
 refine hjo.out.mono ?_
 intro e w2 hJ
 have HJ:=Bx.mk hJ
 have hor:(∃ er:Int,e = .returned (.tuple #[.pointer none,.int .i64 er])) ∨ ∃ jb:Nat,e = .returned (.tuple #[.pointer (some ⟨jb,0,none⟩),.int .i64 0]):=by
  unfold JOpen at hJ
  obtain ⟨_,h2⟩:=hJ
  cases hR:openJ n (fun i=>readP d' false (i:Int)) with
  | error er=>rw [hR] at h2;exact .inl ⟨er,h2.2⟩
  | ok p =>
    obtain ⟨bank,s,L⟩:=p
    rw [hR] at h2
    obtain ⟨jb,rv,h3,_⟩:=h2
    exact .inr ⟨jb,h3⟩
 clear hJ hjo
 rcases hor with ⟨er,rfl⟩ | ⟨jb,rfl⟩
 · go_wp2_with fail
   go_ret2
   exact ⟨pq,bv,w1,HS.out,HPQ.out,HC.out,HJ.out⟩
 · go_wp2_with fail
   go_ret2
   exact ⟨pq,bv,w1,HS.out,HPQ.out,HC.out,HJ.out⟩
end
section
open Go.RowKit Go.Sort Go.Maps
def conP (d:Dk) (cl:Bool) (k:Nat):List (List Int):=(List.range k).map fun (i:Nat)=>(readP d cl (i:Int)).1
theorem conP_len (d:Dk) (cl:Bool) (k:Nat):(conP d cl k).length=k:=by simp [conP]
theorem conP_succ (d:Dk) (cl:Bool) (k:Nat):strs (conP d cl k)++[.string (strOfNums (readP d cl (k:Int)).1)]=strs (conP d cl (k+1)):=by
 unfold conP;rw [List.range_succ,List.map_append];exact (strs_snoc _ _).symm
end
section
open Go.RowKit Go.Sort Go.Maps
theorem q_len (im:List (List Int)):(qDk im).p.length=im.length:=by unfold qDk;exact List.length_map _
theorem q_ok {im:List (List Int)} (h:DkOk (qDk im)) : ∀ x∈im,x.length=128∧Byts x:=fun x hx=>by
 have:=(h.pages (x,none) (by unfold qDk;exact List.mem_map.2 ⟨x,hx,rfl⟩)).now
 exact this
theorem mk_q (n:Nat):mkDk n=qDk (List.replicate n (zerosP 128)):=by
 unfold mkDk qDk
 rw [List.map_replicate]
 rfl
section
variable {w W W':World} {dp g mb cap pp wb n q qq t m:Nat} {bv:Value} {im:List (List Int)}
end
def BatR (v:Value) (w:World):Prop := ∃ a c l,v = .slice a (l:List (Int × List Int)).length c∧SlP w a l∧l.length≤20 ∧ ∀ x∈l,(-9223372036854775808≤x.1∧x.1≤9223372036854775807)∧x.2.length=116∧Byts x.2
theorem BatR.later {v:Value} {w w':World} (h:BatR v w) (hb:Below w.heap.size w w'):BatR v w':=by
 obtain ⟨a,c,l,h1,h2,h3⟩:=h
 exact ⟨a,c,l,h1,h2.below hb,h3⟩
end
section
open Go.RowKit Go.Sort Go.Maps
theorem gatJ_congr {rd rd':Nat→List Int × Int} {base:Nat} : ∀ k,(∀ i,i<k→rd (base+i)=rd' (base+i))→gatJ rd base k=gatJ rd' base k
 | 0,_=>rfl
 | k + 1, h => by
   simp only [gatJ]
   rw [gatJ_congr k fun i hi=>h i (by omega),h k (by omega)]
theorem openJ_congr {n:Nat} {rd rd':Nat→List Int × Int} (h : ∀ i,i<n→rd i=rd' i):openJ n rd=openJ n rd':=by
 unfold openJ
 by_cases h1:(n - 1) / 2<1
 · rw [if_pos h1,if_pos h1]
 rw [if_neg h1,if_neg h1,h 0 (by omega)]
 by_cases h2:(rd' 0).2 ≠ 0
 · rw [if_pos h2,if_pos h2]
 rw [if_neg h2,if_neg h2]
 by_cases h3:headBad ((n - 1) / 2) (rd' 0).1
 · rw [if_pos h3,if_pos h3]
 rw [if_neg h3,if_neg h3]
 have hg:gatJ rd (1+hBank (rd' 0).1 * ((n - 1) / 2)) (pagesFor (hUsed (rd' 0).1))=gatJ rd' (1+hBank (rd' 0).1 * ((n - 1) / 2)) (pagesFor (hUsed (rd' 0).1)):=by
  refine gatJ_congr _ fun i hi=>h _ ?_
  have h4:hBank (rd' 0).1≤1:=by
   rcases Nat.lt_or_ge 1 (hBank (rd' 0).1) with h | h
   · exact absurd (.inl h) h3
   · exact h
  have h5:hUsed (rd' 0).1≤(n - 1) / 2 * 116:=by
   rcases Nat.lt_or_ge ((n - 1) / 2 * 116) (hUsed (rd' 0).1) with h | h
   · exact absurd (.inr (.inl h)) h3
   · exact h
  have h6:hBank (rd' 0).1 * ((n - 1) / 2)≤1 * ((n - 1) / 2):=Nat.mul_le_mul_right _ h4
  unfold pagesFor at hi
  omega
 rw [hg]
theorem own_ne_js {W:World} {B jp pp h bank:Nat} {s:List Int} {rv:Value} {cl:Bool} {a:Option Addr} {n n2 c:Nat} {vs:List Value} (hj:JS W jp pp h bank s rv cl) (ho:W.ownsRow B 9 1 (.slice a n c) n2 vs) {b:Addr} (hb:a=some b):b.block ≠ jp:=fun e=>by
 rcases ho.2 with ⟨h1,_⟩ | ⟨g',cap,cur,h1,_,hg,_⟩
 · injection h1 with h1;rw [hb] at h1;cases h1
 · injection h1 with h1
   rw [hb] at h1
   injection h1 with h1
   subst h1
   change g'=jp at e
   subst e
   rw [show W.heap[g']? = _ from hj] at hg
   injection hg with hg
   injection hg with _ hg _
   exact absurd hg (by decide)
section
variable {F F':Nat→Prop} {B:Nat} {W W':World} {dp g mb cap pp jp nn h bank:Nat} {bv:Value} {t m:Nat} {im:List (List Int)} {s:List Int} {L:List (List Int)}
theorem JD.ltJ (hJ:JD F B W dp g mb cap pp jp nn h bank bv t m im s L) : ∀ k,JW jp pp dp g mb k→k<W.heap.size:=fun k hk=>by
 have h3:=hJ.st.dk.lt
 obtain ⟨ra,rc,hj,_,_⟩:=hJ.js
 rcases hk with rfl | rfl | rfl | rfl | rfl
 · exact Bk.lt hj
 · exact Bk.lt hJ.st.ps
 · exact h3.1
 · exact h3.2.1
 · exact h3.2.2
theorem JD.more (hJ:JD F B W dp g mb cap pp jp nn h bank bv t m im s L) (hF : ∀ k,F' k→F k∨W.heap.size≤k):JD F' B W dp g mb cap pp jp nn h bank bv t m im s L:=by
 have hlt:=hJ.ltJ
 obtain ⟨ra,rc,h1,h2,h3⟩:=hJ.js
 refine ⟨hJ.st,hJ.inv,⟨ra,rc,h1,h2,fun b hb=>⟨fun hk=>?_,(h3 b hb).2⟩⟩,hJ.ne,fun k hk hk'=>?_,hJ.inj,hJ.byt⟩
 · rcases hF _ hk with h | h
   · exact (h3 b hb).1 h
   · have:=(h3 b hb).2.2;omega
 · rcases hF _ hk' with h | h
   · exact hJ.far k hk h
   · have:=hlt k hk;omega
theorem JD.mono (hJ:JD F B W dp g mb cap pp jp nn h bank bv t m im s L) {m':Nat} (hm:m≤m'):JD F B W dp g mb cap pp jp nn h bank bv t m' im s L :=
 ⟨⟨hJ.st.dk.mono hm,hJ.st.ps,hJ.st.ne,hJ.st.lo⟩,hJ.inv,hJ.js,hJ.ne,hJ.far,hJ.inj,hJ.byt⟩
theorem reopen_any (hd:DkIs W dp g mb cap m (qDk im)) (hlo : ∀ k,In3 dp g mb k→B≤k) (hfar : ∀ k,In3 dp g mb k → ¬F k) (hF : ∀ k,F k→k<W.heap.size) (hinv:PInv (nn+17) t im) (hinj:InvJ nn h bank s L im) (hbyt : ∀ r∈L,Byts r) (hm:m+20<1000000) (ht:t≤2 ^ 30) (hB:B≤W.heap.size) :
 Calls Tryd.prog 15 #[.pointer (some ⟨dp,0,none⟩)] W fun e w' => ∃ pq jq bq,e = .returned (.tuple #[.pointer (some ⟨jq,0,none⟩),.int .i64 0])∧JD F B w' dp g mb cap pq jq nn h bank bq t (m+20) im s L∧Chg (In3 dp g mb) W w':=by
 have hlen:im.length=nn+17:=hinv.len
 have hpl:(qDk im).p.length=nn+17:=by rw [q_len,hlen]
 obtain ⟨hh,h1,h200⟩:=hinj.half
 have hrep:=replay_calm hinv (q_ok hd.ok) ht (by omega)
 have hop:=opened_any hd hlo (by rw [hpl];omega) rfl hm (d':=qDk im) (by rw [now_q];exact hrep) hB (n:=nn) hpl (by omega)
 rw [now_q,mx_calm hinv ht] at hop
 refine hop.mono ?_
 rintro e w' ⟨pq,bv,Wm,hst,hpq,hc,hJ⟩
 have hrd:(fun (i:Nat)=>readP (qDk im) false (i:Int))=fun i=>if 17+i<nn+17 then (datD im i,0) else readP (qDk im) false (i:Int):=by
  funext i
  split
  · rename_i hi;exact read_q hinv hi
  · rfl
 have hoJ:openJ nn (fun i=>readP (qDk im) false (i:Int)) = .ok (bank,s,L):=by
  have h0:=hinj.open_ (fun i hi=>datD_len hinv (by omega))
  rw [←h0]
  exact openJ_congr fun i hi=>read_q hinv (by omega)
 unfold JOpen at hJ
 rw [hoJ] at hJ
 obtain ⟨hb,jb,rv,he,hjs,hown,hlow⟩:=hJ
 rw [←hh] at hjs
 obtain ⟨ra,rc,rfl,hsl⟩:=hown.form
 rw [strs_length] at hjs hown
 have hin : ∀ k,In3 dp g mb k→k<W.heap.size:=fun k hk=>by
  have:=hd.lt
  rcases hk with rfl | rfl | rfl <;> omega
 have hWm:=hc.size
 have hpl2:=Bk.lt hst.ps
 refine ⟨pq,jb,bv,he,⟨hst.later hb,hinv,⟨ra,rc,hjs,hsl,fun b hbb=>?_⟩,⟨by omega,fun hk=>by have:=hin _ hk;omega⟩,fun k hk hk'=>?_,hinj,hbyt⟩,hc.trans (.ofBelow hb _) fun _ _ h=>h⟩
 · obtain ⟨q1,q2,_⟩:=own_at hown b.block (by rw [hbb];rfl)
   refine ⟨fun hk=>by have:=hF _ hk;omega,fun hk=>?_,q2⟩
   rcases hk with hk | hk | hk
   · have hne:=own_ne_js hjs hown hbb
     exact hne hk
   · omega
   · have:=hin _ hk;omega
 · have:=hF k hk'
   rcases hk with rfl | rfl | hk
   · omega
   · omega
   · exact hfar k hk hk'
end
end
end Go.Proofs.YtajhkncolbgkbaaDoor
