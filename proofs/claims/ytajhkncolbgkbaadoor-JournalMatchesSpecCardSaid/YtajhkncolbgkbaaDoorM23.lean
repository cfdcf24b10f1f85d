/- Jde, Jsa, Jr4, Jmt, RlS: joined by program, for one claim. -/
import Derived.Test.YtajhkncolbgkbaaDoorM21
import Derived.Test.YtajhkncolbgkbaaDoorM22
import Derived.Deep.CutBlock
import Derived.Test.YtajhkncolbgkbaaDoorM2
set_option linter.unusedVariables false
set_option linter.unusedSimpArgs false
namespace Go.Proofs.YtajhkncolbgkbaaDoor
section
open Go.RowKit Go.Sort Go.Maps
def JE (F:Nat→Prop) (B:Nat) (W:World) (dp g mb cap pp jp nn h k:Nat) (L:List (List Int)):Prop :=
 ∃ bank bv t m im s,t≤k * 100∧m≤100+k * 4000∧JD F B W dp g mb cap pp jp nn h bank bv t m im s L
section
variable {F F':Nat→Prop} {B:Nat} {W W':World} {dp g mb cap pp jp nn h k:Nat} {L:List (List Int)}
theorem JE.chg (hJ:JE F B W dp g mb cap pp jp nn h k L) (hc:Chg F W W'):JE F B W' dp g mb cap pp jp nn h k L:=by
 obtain ⟨bank,bv,t,m,im,s,h1,h2,h3⟩:=hJ
 exact ⟨bank,bv,t,m,im,s,h1,h2,h3.chg hc⟩
theorem JE.later (hJ:JE F B W dp g mb cap pp jp nn h k L) (hb:Below W.heap.size W W'):JE F B W' dp g mb cap pp jp nn h k L:=hJ.chg (.ofBelow hb F)
theorem JE.more (hJ:JE F B W dp g mb cap pp jp nn h k L) (hF : ∀ k,F' k→F k∨W.heap.size≤k):JE F' B W dp g mb cap pp jp nn h k L:=by
 obtain ⟨bank,bv,t,m,im,s,h1,h2,h3⟩:=hJ
 exact ⟨bank,bv,t,m,im,s,h1,h2,h3.more hF⟩
theorem JE.up (hJ:JE F B W dp g mb cap pp jp nn h k L) {k':Nat} (hk:k≤k'):JE F B W dp g mb cap pp jp nn h k' L:=by
 obtain ⟨bank,bv,t,m,im,s,h1,h2,h3⟩:=hJ
 have e1:k * 100≤k' * 100:=Nat.mul_le_mul_right _ hk
 have e2:k * 4000≤k' * 4000:=Nat.mul_le_mul_right _ hk
 exact ⟨bank,bv,t,m,im,s,Nat.le_trans h1 e1,Nat.le_trans h2 (Nat.add_le_add_left e2 _),h3⟩
theorem JE.far (hJ:JE F B W dp g mb cap pp jp nn h k L) : ∀ x,JW jp pp dp g mb x → ¬F x∧x<W.heap.size:=fun x hx=>by
 obtain ⟨bank,bv,t,m,im,s,h1,h2,h3⟩:=hJ
 exact ⟨h3.far x hx,h3.ltJ x hx⟩
theorem JE.small (hJ:JE F B W dp g mb cap pp jp nn h k L):L.length≤5800∧(strmP L).length≤11600∧1≤h∧h≤99 ∧ ∀ r∈L,r.length≤8000:=by
 obtain ⟨bank,bv,t,m,im,s,h1,h2,h3⟩:=hJ
 have h4:=h3.small
 have h5:=h3.inj.half
 exact ⟨h4.2.1,by rw [←h3.inj.strm];exact h4.1,h5.2.1,h4.2.2.1,h3.inj.short⟩
theorem JE.fits (hJ:JE F B W dp g mb cap pp jp nn h k L):(strmP L).length≤h * 116:=by
 obtain ⟨bank,bv,t,m,im,s,h1,h2,h3⟩:=hJ
 rw [←h3.inj.strm]
 exact h3.inj.fits
theorem JE.len (hJ:JE F B W dp g mb cap pp jp nn h k L):Calls Tryd.prog 18 #[.pointer (some ⟨jp,0,none⟩)] W fun e w'=>e = .returned (.int .i64 (L.length:Int))∧Below W.heap.size W w':=by
 obtain ⟨bank,bv,t,m,im,s,h1,h2,h3⟩:=hJ
 exact h3.len
theorem JE.used (hJ:JE F B W dp g mb cap pp jp nn h k L):Calls Tryd.prog 21 #[.pointer (some ⟨jp,0,none⟩)] W fun e w'=>e = .returned (.int .i64 ((strmP L).length:Int))∧Below W.heap.size W w':=by
 obtain ⟨bank,bv,t,m,im,s,h1,h2,h3⟩:=hJ
 exact h3.used
theorem JE.room (hJ:JE F B W dp g mb cap pp jp nn h k L):Calls Tryd.prog 22 #[.pointer (some ⟨jp,0,none⟩)] W fun e w'=>e = .returned (.int .i64 ((h * 116 - (strmP L).length:Nat):Int))∧Below W.heap.size W w':=by
 obtain ⟨bank,bv,t,m,im,s,h1,h2,h3⟩:=hJ
 exact h3.room
theorem JE.record (hJ:JE F B W dp g mb cap pp jp nn h k L) (i:Int) (hi : -9223372036854775808≤i∧i≤9223372036854775807):Calls Tryd.prog 17 #[.pointer (some ⟨jp,0,none⟩),.int .i64 i] W fun e w'=>e = .returned (recV L i)∧Below W.heap.size W w':=by
 obtain ⟨bank,bv,t,m,im,s,h1,h2,h3⟩:=hJ
 exact h3.record i hi
theorem JE.records (hJ:JE F B W dp g mb cap pp jp nn h k L):Calls Tryd.prog 20 #[.pointer (some ⟨jp,0,none⟩)] W fun e w' => ∃ v,e = .returned v∧Below W.heap.size W w'∧Ownv w' W.heap.size 9 v (strs L):=by
 obtain ⟨bank,bv,t,m,im,s,h1,h2,h3⟩:=hJ
 exact h3.records
def JEp (F:Nat→Prop) (B dp g mb cap pp jp nn h k:Nat) (L':List (List Int)) (W w':World):Prop:=JE F B w' dp g mb cap pp jp nn h k L'∧Chg (JW jp pp dp g mb) W w'
set_option maxRecDepth 100000 in
theorem JEp.of {er:Int} {t m bank:Nat} {bv:Value} {im:List (List Int)} {s:List Int} {L L':List (List Int)} {v:Value} {e:Ending} (hJ:JD F B W dp g mb cap pp jp nn h bank bv t m im s L) (h1:t≤k * 100) (h2:m≤100+k * 4000) (hp:ApPost F B dp g mb cap pp jp nn h bv t m L L' er v W e W'):JEp F B dp g mb cap pp jp nn h (k+1) (if er=0 then L' else L) W W':=by
 rcases hp with ⟨h0,hb⟩ | ⟨h0,t',m',im',s',bank',ht,hm,hJ',hc⟩
 · rw [if_neg h0]
   exact ⟨⟨bank,bv,t,m,im,s,by omega,by omega,hJ.later hb⟩,.ofBelow hb _⟩
 · rw [if_pos h0]
   exact ⟨⟨bank',bv,t',m',im',s',by omega,by omega,hJ'⟩,hc⟩
theorem JE.append (hJ:JE F B W dp g mb cap pp jp nn h k L) (hF : ∀ x,F x→x<W.heap.size) (hk:k≤100) (r:List Int) (hrb:Byts r) (hr:r.length≤60000) :
 Calls Tryd.prog 9 #[.pointer (some ⟨jp,0,none⟩),.string (strOfNums r)] W fun e w'=>e = .returned (.tuple #[.int .i64 (if apE h L r=0 then (L.length:Int) else 0),.int .i64 (apE h L r)])∧JEp F B dp g mb cap pp jp nn h (k+1) (if apE h L r=0 then L++[r] else L) W w':=by
 obtain ⟨bank,bv,t,m,im,s,h1,h2,h3⟩:=hJ
 exact (jappend_any h3 hF (by omega) (by omega) r hrb hr).mono fun e w' hp=>⟨hp.1,.of h3 h1 h2 hp.2⟩
theorem JE.replace (hJ:JE F B W dp g mb cap pp jp nn h k L) (hF : ∀ x,F x→x<W.heap.size) (hk:k≤100) (a:Option Addr) (c:Nat) (L2:List (List Int)) (hs2:Slv W a (strs L2)) (hL2:L2.length≤100000) (hr2 : ∀ r∈L2,r.length≤60000) (ht2:(strmP L2).length≤1000000) (hb2 : ∀ r∈L2,Byts r) :
 Calls Tryd.prog 12 #[.pointer (some ⟨jp,0,none⟩),.slice a L2.length c] W fun e w'=>e = .returned (.int .i64 (jchkV false h (strmP L2) L2))∧JEp F B dp g mb cap pp jp nn h (k+1) (if jchkV false h (strmP L2) L2=0 then L2 else L) W w':=by
 obtain ⟨bank,bv,t,m,im,s,h1,h2,h3⟩:=hJ
 exact (jreplace_any h3 hF (by omega) (by omega) a c L2 hs2 hL2 hr2 ht2 hb2).mono fun e w' hp=>⟨hp.1,.of h3 h1 h2 hp.2⟩
theorem JE.open_ (hJ:JE F B W dp g mb cap pp jp nn h k L) (hF : ∀ x,F x→x<W.heap.size) (hk:k≤100) (hB:B≤W.heap.size) :
 Calls Tryd.prog 15 #[.pointer (some ⟨dp,0,none⟩)] W fun e w' => ∃ pq jq,e = .returned (.tuple #[.pointer (some ⟨jq,0,none⟩),.int .i64 0])∧JE F B w' dp g mb cap pq jq nn h (k+1) L∧Chg (In3 dp g mb) W w':=by
 obtain ⟨bank,bv,t,m,im,s,h1,h2,h3⟩:=hJ
 refine (reopen_any h3.st.dk (fun x hx=>h3.st.lo x (.inr hx)) (fun x hx=>h3.far x (.inr (.inr hx))) hF h3.inv h3.inj h3.byt (by omega) (by omega) hB).mono ?_
 rintro e w' ⟨pq,jq,bq,he,hj,hc⟩
 exact ⟨pq,jq,he,⟨bank,bq,t,m+20,im,s,by omega,by omega,hj⟩,hc⟩
end
theorem begin_JE (w:World) (n:Nat) (h1:20≤n) (h2:n≤120) :
 Calls Tryd.prog 7 #[.int .i64 (n:Int)] w fun e w' => ∃ dp g mb pp jp,e = .returned (.tuple #[.pointer (some ⟨dp,0,none⟩),.pointer (some ⟨jp,0,none⟩),.bool true])∧JE (fun k=>k<w.heap.size) w.heap.size w' dp g mb n pp jp (n - 17) ((n - 17 - 1) / 2) 0 []∧Below w.heap.size w w':=by
 refine (begin_yes w n h1 h2).mono ?_
 rintro e w' ⟨dp,g,mb,pp,jp,bv,he,hJ,hb⟩
 exact ⟨dp,g,mb,pp,jp,he,⟨0,bv,0,20,_,[],Nat.le_refl _,by omega,hJ⟩,hb⟩
end
section
open Go.RowKit Go.Sort Go.Maps
theorem sa_s1:strOfNums [97,98]=⟨#[97,98]⟩:=rfl
theorem sa_s2:strOfNums []=⟨#[]⟩:=rfl
theorem sa_a1:apE 2 [] [97,98]=0:=by decide
theorem sa_a2:apE 2 [[97,98]] []=0:=by decide
theorem sa_a3:apE 2 [[97,98],[]] (textB 97 225)=21:=by decide +kernel
theorem sa_a4:apE 2 [[97,98],[]] (textB 97 8001)=2:=by decide +kernel
theorem sa_a5:jchkV false 2 (strmP [[120],[121,122]]) [[120],[121,122]]=0:=by decide
theorem sa_b1:Byts [97,98]:=fun x hx=>by simp at hx;omega
theorem sa_b2:Byts []:=fun x hx=>by cases hx
theorem sa_b3 : ∀ r∈[[120],[121,122]],Byts r:=fun r hr x hx=>by
 simp only [List.mem_cons,List.not_mem_nil,or_false] at hr
 rcases hr with rfl | rfl <;> (simp at hx;omega)
theorem two_slv {a b:List Int} {w:World} {k:Nat} (h:Bk w k #[.string (strOfNums a),.string (strOfNums b)] 9):Slv w (some ⟨k,0,none⟩) (strs [a,b]):=fun i x hx=>by
 match i,hx with
 | 0, hx =>
   have e:(strs [a,b])[0]? = some (.string (strOfNums a)):=strs_at rfl
   rw [e] at hx
   rw [←Option.some.inj hx]
   exact ⟨k,0,rfl,h.cell 0 rfl⟩
 | 1, hx =>
   have e:(strs [a,b])[1]? = some (.string (strOfNums b)):=strs_at rfl
   rw [e] at hx
   rw [←Option.some.inj hx]
   exact ⟨k,0,rfl,h.cell 1 rfl⟩
 | i+2,hx=>rw [List.getElem?_eq_none (by rw [strs_length];simp)] at hx;cases hx
set_option maxRecDepth 100000 in
set_option maxHeartbeats 4000000 in
theorem sanity15_true (w:World):Calls Tryd.prog 6 #[] w fun e w'=>e = .returned (.bool true)∧Below w.heap.size w w':=by
 have hbg:=Bx.mk (begin_JE w 22 (by decide) (by decide))
 have hb19:=Bx.mk begin_19
 have htx1:=Bx.mk fun W=>rtext_any 97 (by decide) 225 (by decide) W
 have htx2:=Bx.mk fun W=>rtext_any 97 (by decide) 8001 (by decide) W
 rw [show (225:Int).toNat=225 from rfl] at htx1
 rw [show (8001:Int).toNat=8001 from rfl] at htx2
 go_enter Tryd.func6,Tryd.ntmps6
 go_upto_region 2 with (go_at_call 7;refine hbg.out.mono ?_;rintro _ w1 ⟨dp,g,mb,pp,jp,rfl,hJ,hb⟩)
 have HJ1:=Bx.mk (show JE (fun k=>k<w.heap.size) w.heap.size w1 dp g mb 22 pp jp 5 2 0 [] from hJ)
 have HB1:=Bx.mk hb
 clear hJ hb hbg
 have hcl:=Bx.mk (hb19.out w1)
 go_upto_region 3 with (go_at_call 7;refine hcl.out.mono ?_;rintro _ w2 ⟨dq,rfl,hb⟩)
 have HJ2:=Bx.mk (HJ1.out.later hb)
 have HB2:=Bx.mk (HB1.out.trans (hb.mono HB1.out.size))
 clear hb HJ1 HB1
 clear hcl
 have hcl:=Bx.mk (HJ2.out.len)
 go_wp2_with fail
 refine hcl.out.mono ?_
 rintro _ w3 ⟨rfl,hb⟩
 have HJ3:=Bx.mk (HJ2.out.later hb)
 have HB3:=Bx.mk (HB2.out.trans (hb.mono HB2.out.size))
 clear hb HJ2 HB2
 clear hcl
 have hcl:=Bx.mk (show Calls _ _ _ _ (fun e w'=>e = .returned (.int .i64 232)∧Below w3.heap.size w3 w') from HJ3.out.room)
 go_wp2_with fail
 refine hcl.out.mono ?_
 rintro _ w4 ⟨rfl,hb⟩
 have HJ4:=Bx.mk (HJ3.out.later hb)
 have HB4:=Bx.mk (HB3.out.trans (hb.mono HB3.out.size))
 clear hb HJ3 HB3
 clear hcl
 go_upto_region 5 with fail
 have hcl:=HJ4.out.append (fun x hx=>Nat.lt_of_lt_of_le hx HB4.out.size) (by decide) [97,98] sa_b1 (by decide)
 rw [sa_a1,if_pos rfl,if_pos rfl,sa_s1] at hcl
 replace hcl:=Bx.mk hcl
 go_upto_region 6 with (go_at_call 9;refine hcl.out.mono ?_;rintro _ w5 ⟨rfl,hj,hc⟩)
 have HB5:=Bx.mk (HB4.out.trans (hc.below HB4.out.size fun x hx hS=>(HJ4.out.far x hS).1 hx))
 have HJ5:=Bx.mk (show JE (fun k=>k<w.heap.size) w.heap.size w5 dp g mb 22 pp jp 5 2 1 [[97,98]] from hj)
 clear hj hc hcl HJ4 HB4
 have hcl:=HJ5.out.append (fun x hx=>Nat.lt_of_lt_of_le hx HB5.out.size) (by decide) [] sa_b2 (by decide)
 rw [sa_a2,if_pos rfl,if_pos rfl,sa_s2] at hcl
 replace hcl:=Bx.mk hcl
 go_upto_region 7 with (go_at_call 9;refine hcl.out.mono ?_;rintro _ w6 ⟨rfl,hj,hc⟩)
 have HB6:=Bx.mk (HB5.out.trans (hc.below HB5.out.size fun x hx hS=>(HJ5.out.far x hS).1 hx))
 have HJ6:=Bx.mk (show JE (fun k=>k<w.heap.size) w.heap.size w6 dp g mb 22 pp jp 5 2 2 [[97,98],[]] from hj)
 clear hj hc hcl HJ5 HB5
 have hcl:=Bx.mk (show Calls _ _ _ _ (fun e w'=>e = .returned (.int .i64 6)∧Below w6.heap.size w6 w') from HJ6.out.used)
 go_wp2_with fail
 refine hcl.out.mono ?_
 rintro _ w7 ⟨rfl,hb⟩
 have HJ7:=Bx.mk (HJ6.out.later hb)
 have HB7:=Bx.mk (HB6.out.trans (hb.mono HB6.out.size))
 clear hb HJ6 HB6
 clear hcl
 have hcl:=Bx.mk (show Calls _ _ _ _ (fun e w'=>e = .returned (.int .i64 226)∧Below w7.heap.size w7 w') from HJ7.out.room)
 go_wp2_with fail
 refine hcl.out.mono ?_
 rintro _ w8 ⟨rfl,hb⟩
 have HJ8:=Bx.mk (HJ7.out.later hb)
 have HB8:=Bx.mk (HB7.out.trans (hb.mono HB7.out.size))
 clear hb HJ7 HB7
 clear hcl
 go_upto_region 8 with fail
 have hcl:=Bx.mk (htx1.out w8)
 go_wp2_with fail
 refine hcl.out.mono ?_
 rintro _ w9 ⟨rfl,hb⟩
 have HJ9:=Bx.mk (HJ8.out.later hb)
 have HB9:=Bx.mk (HB8.out.trans (hb.mono HB8.out.size))
 clear hb HJ8 HB8
 clear hcl
 have hcl:=HJ9.out.append (fun x hx=>Nat.lt_of_lt_of_le hx HB9.out.size) (by decide) (textB 97 225) (textB_byts _ _) (by rw [textB_len];decide)
 rw [sa_a3,if_neg (by decide),if_neg (by decide)] at hcl
 replace hcl:=Bx.mk hcl
 go_upto_region 9 with (go_at_call 9;refine hcl.out.mono ?_;rintro _ w10 ⟨rfl,hj,hc⟩)
 have HB10:=Bx.mk (HB9.out.trans (hc.below HB9.out.size fun x hx hS=>(HJ9.out.far x hS).1 hx))
 have HJ10:=Bx.mk (show JE (fun k=>k<w.heap.size) w.heap.size w10 dp g mb 22 pp jp 5 2 3 [[97,98],[]] from hj)
 clear hj hc hcl HJ9 HB9
 have hcl:=Bx.mk (htx2.out w10)
 go_wp2_with fail
 refine hcl.out.mono ?_
 rintro _ w11 ⟨rfl,hb⟩
 have HJ11:=Bx.mk (HJ10.out.later hb)
 have HB11:=Bx.mk (HB10.out.trans (hb.mono HB10.out.size))
 clear hb HJ10 HB10
 clear hcl
 have hcl:=HJ11.out.append (fun x hx=>Nat.lt_of_lt_of_le hx HB11.out.size) (by decide) (textB 97 8001) (textB_byts _ _) (by rw [textB_len];decide)
 rw [sa_a4,if_neg (by decide),if_neg (by decide)] at hcl
 replace hcl:=Bx.mk hcl
 go_upto_region 10 with (go_at_call 9;refine hcl.out.mono ?_;rintro _ w12 ⟨rfl,hj,hc⟩)
 have HB12:=Bx.mk (HB11.out.trans (hc.below HB11.out.size fun x hx hS=>(HJ11.out.far x hS).1 hx))
 have HJ12:=Bx.mk (show JE (fun k=>k<w.heap.size) w.heap.size w12 dp g mb 22 pp jp 5 2 4 [[97,98],[]] from hj)
 clear hj hc hcl HJ11 HB11
 have hcl:=Bx.mk (show Calls _ _ _ _ (fun e w'=>e = .returned (.tuple #[.string ⟨#[97,98]⟩,.bool true])∧Below w12.heap.size w12 w') from HJ12.out.record 0 (by decide))
 go_upto_region 11 with (go_at_call 17;refine hcl.out.mono ?_;rintro _ w13 ⟨rfl,hb⟩)
 have HJ13:=Bx.mk (HJ12.out.later hb)
 have HB13:=Bx.mk (HB12.out.trans (hb.mono HB12.out.size))
 clear hb HJ12 HB12
 clear hcl
 have hcl:=Bx.mk (show Calls _ _ _ _ (fun e w'=>e = .returned (.tuple #[.string ⟨#[]⟩,.bool false])∧Below w13.heap.size w13 w') from HJ13.out.record 2 (by decide))
 go_upto_region 12 with (go_at_call 17;refine hcl.out.mono ?_;rintro _ w14 ⟨rfl,hb⟩)
 have HJ14:=Bx.mk (HJ13.out.later hb)
 have HB14:=Bx.mk (HB13.out.trans (hb.mono HB13.out.size))
 clear hb HJ13 HB13
 clear hcl
 have hba:Below w14.heap.size w14 (w14.alloc (.cells #[.string ⟨#[120]⟩,.string ⟨#[121,122]⟩] 9)):=(Below.refl _ _).alloc (Nat.le_refl _) _
 have HJ15:=Bx.mk (HJ14.out.later hba)
 have HB15:=Bx.mk (HB14.out.trans (hba.mono HB14.out.size))
 have hsl:Slv (w14.alloc (.cells #[.string ⟨#[120]⟩,.string ⟨#[121,122]⟩] 9)) (some ⟨w14.heap.size,0,none⟩) (strs [[120],[121,122]]):=two_slv (Bk.new _ _ _)
 have hcl:=HJ15.out.replace (fun x hx=>Nat.lt_of_lt_of_le hx HB15.out.size) (by decide) (some ⟨w14.heap.size,0,none⟩) 2 [[120],[121,122]] hsl (by decide) (by decide) (by decide) sa_b3
 rw [sa_a5,if_pos rfl] at hcl
 replace hcl:=Bx.mk hcl
 clear hba hsl
 go_upto_region 13 with (go_at_call 12;refine hcl.out.mono ?_;rintro _ w16 ⟨rfl,hj,hc⟩)
 have HB16:=Bx.mk (HB15.out.trans (hc.below HB15.out.size fun x hx hS=>(HJ15.out.far x hS).1 hx))
 have HJ16:=Bx.mk hj
 clear hj hc hcl HJ14 HB14 HJ15 HB15
 have t1:((⟨#[97,98]⟩:ByteArray).toList == (⟨#[97,98]⟩:ByteArray).toList)=true:=by simp
 have hcl:=Bx.mk (HJ16.out.records)
 go_wp2_with fail
 refine hcl.out.mono ?_
 rintro _ w17 ⟨v,rfl,hb,hown⟩
 have HJ17:=Bx.mk (HJ16.out.later hb)
 have HB17:=Bx.mk (HB16.out.trans (hb.mono HB16.out.size))
 obtain ⟨va,vc,rfl,hsv⟩:=hown.form
 rw [show (strs [[120],[121,122]]).length=2 from rfl]
 have HSV:=Bx.mk hsv
 clear hb hcl HJ16 HB16 hown hsv t1
 have hba:Below w17.heap.size w17 (w17.alloc (.cells #[.string ⟨#[120]⟩,.string ⟨#[121,122]⟩] 9)):=(Below.refl _ _).alloc (Nat.le_refl _) _
 have HJ18:=Bx.mk (HJ17.out.later hba)
 have HB18:=Bx.mk (HB17.out.trans (hba.mono HB17.out.size))
 have hcl:=Bx.mk (rsame_yes va (some ⟨w17.heap.size,0,none⟩) vc 2 [[120],[121,122]] (w17.alloc (.cells #[.string ⟨#[120]⟩,.string ⟨#[121,122]⟩] 9)) (HSV.out.below hba) (two_slv (Bk.new _ _ _)) (by decide))
 clear hba HJ17 HB17 HSV
 go_wp2_with fail
 refine hcl.out.mono ?_
 rintro _ w19 ⟨rfl,hb⟩
 have HJ19:=Bx.mk (HJ18.out.later hb)
 have HB19:=Bx.mk (HB18.out.trans (hb.mono HB18.out.size))
 clear hb hcl HJ18 HB18
 have hcl:=Bx.mk (show Calls _ _ _ _ (fun e w'=>e = .returned (.int .i64 2)∧Below w19.heap.size w19 w') from HJ19.out.len)
 go_wp2_with fail
 refine hcl.out.mono ?_
 rintro _ w20 ⟨rfl,hb⟩
 have HJ20:=Bx.mk (HJ19.out.later hb)
 have HB20:=Bx.mk (HB19.out.trans (hb.mono HB19.out.size))
 clear hb HJ19 HB19
 clear hcl
 have hcl:=Bx.mk (show Calls _ _ _ _ (fun e w'=>e = .returned (.int .i64 7)∧Below w20.heap.size w20 w') from HJ20.out.used)
 go_wp2_with fail
 refine hcl.out.mono ?_
 rintro _ w21 ⟨rfl,hb⟩
 have HJ21:=Bx.mk (HJ20.out.later hb)
 have HB21:=Bx.mk (HB20.out.trans (hb.mono HB20.out.size))
 clear hb HJ20 HB20
 clear hcl
 go_wp2_with fail
 go_ret
 exact ⟨rfl,HB21.out⟩
end
section
open Go.RowKit Go.Sort Go.Maps
set_option maxRecDepth 100000 in
set_option maxHeartbeats 1000000 in
theorem rbank_any (n:Nat) (h1:20≤n) (h2:n≤200) (w:World) :
 Calls Tryd.prog 8 #[.int .i64 (n:Int)] w fun e w'=>e = .returned (.int .i64 (((n - 18) / 2 * 116:Nat):Int))∧w'=w:=by
 obtain ⟨a,ha⟩ : ∃ a,a=n - 18:=⟨_,rfl⟩
 obtain ⟨b,hb⟩ : ∃ b,b=(n - 18) / 2:=⟨_,rfl⟩
 have e1:IntKind.i64.wrap ((n:Int) - 18)=(a:Int):=by rw [IntWalk.i64_in _ (by omega)];omega
 have d1:((a:Int)).tdiv 2=(b:Int):=by rw [Int.tdiv_eq_ediv_of_nonneg (by omega)];omega
 have d2:(a:Int) / 2=(b:Int):=by omega
 have d3:IntKind.i64.wrap (b:Int)=(b:Int):=IntWalk.i64_in _ (by omega)
 have e2:IntKind.i64.wrap ((b:Int) * 116)=((b * 116:Nat):Int):=by rw [IntWalk.i64_in _ (by omega)];omega
 rw [←hb]
 generalize b * 116=z at *
 clear ha hb
 go_enter Tryd.func8,Tryd.ntmps8
 go_wp2_with fail
 go_ret
 exact ⟨rfl,rfl⟩
end
section
open Go.RowKit Go.Sort Go.Maps
def JmF (w:World) (tb:Nat) (ra:Option Addr) (x:Nat):Prop:=x<w.heap.size∨x=tb ∨ ∃ b:Addr,ra=some b∧b.block=x
structure JmI (w:World) (tb dp g mb cap pp jp nn h k:Nat) (ra:Option Addr) (rc:Nat) (L L':List (List Int)) (W:World):Prop where
 je:JE (JmF w tb ra) w.heap.size W dp g mb cap pp jp nn h k L
 rj:RJ W tb (h * 116) ra rc L'
 bel:Below w.heap.size w W
 tlt:w.heap.size≤tb
section
variable {w:World} {tb dp g mb cap pp jp nn h k:Nat} {ra:Option Addr} {rc:Nat} {L L':List (List Int)} {W W':World}
theorem JmI.later (hI:JmI w tb dp g mb cap pp jp nn h k ra rc L L' W) (hb:Below W.heap.size W W'):JmI w tb dp g mb cap pp jp nn h k ra rc L L' W' :=
 ⟨hI.je.later hb,hI.rj.later hb,hI.bel.trans (hb.mono hI.bel.size),hI.tlt⟩
theorem JmI.flt (hI:JmI w tb dp g mb cap pp jp nn h k ra rc L L' W) : ∀ x,JmF w tb ra x→x<W.heap.size:=fun x hx=>by
 rcases hx with hx | rfl | ⟨b,hb,rfl⟩
 · exact Nat.lt_of_lt_of_le hx hI.bel.size
 · exact hI.rj.bk.lt
 · exact hI.rj.lt b hb
theorem JmI.jop (hI:JmI w tb dp g mb cap pp jp nn h k ra rc L L' W) {k':Nat} {L2:List (List Int)} (hp:JEp (JmF w tb ra) w.heap.size dp g mb cap pp jp nn h k' L2 W W'):JmI w tb dp g mb cap pp jp nn h k' ra rc L2 L' W':=by
 obtain ⟨hj,hc⟩:=hp
 refine ⟨hj,hI.rj.chg hc (fun hS=>(hI.je.far _ hS).1 (.inr (.inl rfl))) (fun b hb hS=>(hI.je.far _ hS).1 (.inr (.inr ⟨b,hb,rfl⟩))),hI.bel.trans (hc.below hI.bel.size fun x hx hS=>(hI.je.far _ hS).1 (.inl hx)),hI.tlt⟩
theorem JmI.rop (hI:JmI w tb dp g mb cap pp jp nn h k ra rc L L' W) {L2:List (List Int)} (hp:RjPost tb (h * 116) L2 W W') : ∃ ra' rc',JmI w tb dp g mb cap pp jp nn h k ra' rc' L L2 W':=by
 obtain ⟨ra',rc',hr,hc,hlo⟩:=hp
 refine ⟨ra',rc',(hI.je.more (F':=JmF w tb ra') fun x hx=>?_).chg (hc.mono fun x _ hx=>.inr (.inl hx)),hr,hI.bel.trans (hc.below hI.bel.size fun x hx hS=>?_),hI.tlt⟩
 · rcases hx with hx | hx | ⟨b,hb,rfl⟩
   · exact .inl (.inl hx)
   · exact .inl (.inr (.inl hx))
   · exact .inr (hlo b hb)
 · have:=hI.tlt;omega
theorem JmI.rpost (hI:JmI w tb dp g mb cap pp jp nn h k ra rc L L' W) {L2:List (List Int)} {er:Int} (hp:(er ≠ 0∧Below W.heap.size W W')∨(er=0∧RjPost tb (h * 116) L2 W W')) : ∃ ra' rc',JmI w tb dp g mb cap pp jp nn h k ra' rc' L (if er=0 then L2 else L') W':=by
 rcases hp with ⟨h0,hb⟩ | ⟨h0,hp⟩
 · rw [if_neg h0];exact ⟨ra,rc,hI.later hb⟩
 · rw [if_pos h0];exact hI.rop hp
theorem JmI.opn (hI:JmI w tb dp g mb cap pp jp nn h k ra rc L L' W) {pq jq k':Nat} (hj:JE (JmF w tb ra) w.heap.size W' dp g mb cap pq jq nn h k' L) (hc:Chg (In3 dp g mb) W W'):JmI w tb dp g mb cap pq jq nn h k' ra rc L L' W' :=
 ⟨hj,hI.rj.chg hc (fun hS=>(hI.je.far _ (.inr (.inr hS))).1 (.inr (.inl rfl))) (fun b hb hS=>(hI.je.far _ (.inr (.inr hS))).1 (.inr (.inr ⟨b,hb,rfl⟩))),hI.bel.trans (hc.below hI.bel.size fun x hx hS=>(hI.je.far _ (.inr (.inr hS))).1 (.inl hx)),hI.tlt⟩
end
set_option maxRecDepth 100000 in
set_option maxHeartbeats 4000000 in
theorem jm_off (w:World) (n k:Int) (hn : -9223372036854775808≤n∧n≤9223372036854775807) (a:Option Addr) (c ln:Nat) (hoff:n<20∨120<n∨16<ln) :
 Calls Tryd.prog 3 #[.int .i64 n,.slice a ln c,.int .i64 k] w fun e w'=>e = .returned (.bool true)∧Below w.heap.size w w':=by
 have hsan:=Bx.mk (sanity15_true w)
 have t:(decide (n<20)=true)∨(decide (n<20)=false∧decide (n > 120)=true)∨(decide (n<20)=false∧decide (n > 120)=false∧decide ((ln:Int) > 16)=true∧decide (ln > 16)=true∧decide (16<ln)=true):=by
  by_cases h1:n<20
  · exact .inl (by simpa using h1)
  · by_cases h2:120<n
    · exact .inr (.inl ⟨by simp;omega,by simpa using h2⟩)
    · have h3:16<ln:=by omega
      exact .inr (.inr ⟨by simp;omega,by simp;omega,by simp;omega,by simpa using h3,by simpa using h3⟩)
 clear hoff
 rcases t with t1 | ⟨t1,t2⟩ | ⟨t1,t2,t3,t4,t5⟩
 all_goals
  go_enter Tryd.func3,Tryd.ntmps3
  go_upto_region 2 with (go_at_call 6;refine hsan.out.mono ?_;rintro _ w1 ⟨rfl,hb1⟩)
  have HB:=Bx.mk hb1
  clear hb1 hsan
  go_wp2_with fail
  go_ret
  exact ⟨rfl,HB.out⟩
end
section
open Go.Sort Go.RowKit
def relSB (l:List Oper) (n:Nat):Bool :=
 Region.noSelect l.toArray &&
 ((List.range n).all fun i => match l[i]? with
   | some o=>(match o.guard with
    | none=>true
    | some (g,_)=>decide (g<n) && Region.waitsFor .any l.toArray i g) && o.dst.isSome && o.op.operands.toList.all fun x=>match x with
     | .tmp d=>(List.range n).all fun j => !decide (dstAt l j=some d) || (decide (j<i) && Region.waitsFor .any l.toArray i j)
     | _=>true
   | none=>false) &&
 ((List.range n).all fun i=>(List.range n).all fun j=>decide (i=j) || !decide (dstAt l i=dstAt l j))
structure RelSB (l:List Oper) (n:Nat):Prop where
 nosel:Region.noSelect l.toArray=true
 guard : ∀ i o g b,i<n→l[i]? = some o→o.guard=some (g,b)→g<n∧Region.waitsFor .any l.toArray i g=true
 dst : ∀ i o,i<n→l[i]? = some o → ∃ d,o.dst=some d
 data : ∀ i o d j,i<n→l[i]? = some o → .tmp d∈o.op.operands→j<n→dstAt l j=some d→j<i∧Region.waitsFor .any l.toArray i j=true
 dist : ∀ i j d,i<n→j<n→i ≠ j→dstAt l i=some d→dstAt l j ≠ some d
theorem relSB_spec {l:List Oper} {n:Nat} (h:relSB l n=true):RelSB l n:=by
 simp only [relSB,Bool.and_eq_true] at h
 obtain ⟨⟨h3,h4⟩,h5⟩:=h
 refine ⟨h3,fun i o g b hi ho hg=>?_,fun i o hi ho=>?_,fun i o d j hi ho hd hj hdj=>?_,fun i j d hi hj hne hdi hdj=>?_⟩
 · have:=List.all_eq_true.1 h4 i (List.mem_range.2 hi)
   simp only [ho,hg,Bool.and_eq_true,decide_eq_true_eq] at this
   exact this.1.1
 · have:=List.all_eq_true.1 h4 i (List.mem_range.2 hi)
   simp only [ho,Bool.and_eq_true] at this
   exact Option.isSome_iff_exists.1 this.1.2
 · have:=List.all_eq_true.1 h4 i (List.mem_range.2 hi)
   simp only [ho,Bool.and_eq_true] at this
   have:=List.all_eq_true.1 this.2 (.tmp d) (by simpa using hd)
   have:=List.all_eq_true.1 this j (List.mem_range.2 hj)
   simpa [hdj] using this
 · have:=List.all_eq_true.1 (List.all_eq_true.1 h5 i (List.mem_range.2 hi)) j (List.mem_range.2 hj)
   simp [hne,hdi,hdj] at this
def headRS (l:List Oper) (n:Nat):Bool :=
 decide (n<l.length) && backB .any l n && tailT .any l n && relSB l n && Region.seqB .any l.toArray (l.length - n) n (Array.replicate n true++Array.replicate (l.length - n) false)
section
variable {P:Program} {l:List Oper} {n:Nat} {R:Nat→Value→World→Prop} {W:World} {a:Act} {sk:Nat→Bool}
theorem ri_stepS (hnl:n≤l.length) (B:RelSB l n) (hgd : ∀ i o g b,i<n→l[i]? = some o→o.guard=some (g,b) → ∀ v w,R g v w→v = .bool (if sk i then !b else b))
 (hsk : ∀ i o,i<n→l[i]? = some o→sk i=true→(∃ gb,o.guard=some gb) ∧ ∀ w,R i undef w)
  (hf : ∀ i,i<n→Firm (R i)) (hd : ∀ i d,i<n→dstAt l i=some d→d<a.tmps.size)
 (hop : ∀ i o,i<n→l[i]? = some o→sk i=false → ∀ (ρ:Operand→Value) w,Below W.heap.size W w→(∀ v,ρ (.const v)=v)→(∀ g,ρ (.global g) = .pointer (some ⟨g,0,none⟩))→(∀ f,ρ (.func f) = .func (.func f) #[] #[]) →
  (∀ d,.tmp d∈o.op.operands→Known l n R a d (ρ (.tmp d)) w)→relUpon P w (R i) ((execOp ρ o).run P w))
 {Q:Exit→Act→World→Prop} {s:Array Bool} (hs:s.size=n) {a':Act} {w':World} (I:RI l n R W a s a' w') {i:Nat} (hin:i<n) (hr:i∈Region.ready .any l.toArray (s++Array.replicate (l.length - n) false)) (hun:s.getD i true=false) :
 wpOp P l.toArray Q i (fun a'' w''=>RI l n R W a (s.setIfInBounds i true) a'' w'') a' w':=by
 obtain ⟨_,o,ho,hall⟩:=mem_ready.1 hr
 have hol:l[i]? = some o:=by simpa using ho
 have hdo:dstAt l i=o.dst:=by simp [dstAt,hol]
 obtain ⟨di,hdi⟩:=B.dst i o hin hol
 have hself:=getD_set_self (s:=s) (i:=i) (by omega)
 have hnew : ∀ j,j ≠ i→(s.setIfInBounds i true).getD j false=s.getD j false:=fun j hj=>getD_set_ne false (Ne.symm hj)
 unfold wpOp
 simp only [ho]
 have hw:Region.wanted o (yielded l.toArray a'.tmps) = !sk i:=by
  unfold Region.wanted
  cases hgg:o.guard with
  | none =>
    cases hs':sk i with
    | false=>rfl
    | true =>
      obtain ⟨⟨gb,h1⟩,_⟩:=hsk i o hin hol hs'
      rw [hgg] at h1;cases h1
  | some p =>
    obtain ⟨g,b⟩:=p
    obtain ⟨hgn,hgw⟩:=B.guard i o g b hin hol hgg
    have hlg:=waits_listed hgw hr
    rw [app_get hs hgn] at hlg
    obtain ⟨og,hog⟩ : ∃ o,l[g]? = some o:=⟨_,List.getElem?_eq_getElem (by omega)⟩
    obtain ⟨d,hdd⟩:=B.dst g og hgn hog
    obtain ⟨v,h1,h2⟩:=I.head g d hgn hlg (by simp [dstAt,hog,hdd])
    have:=hgd i o g b hin hol hgg v w' h2
    subst this
    cases hs':sk i <;> cases b <;> simp [yielded,hog,hdd,h1,hs']
 have post : ∀ v w'',Below w'.heap.size w' w''→R i v w''→RI l n R W a (s.setIfInBounds i true) (a'.put o.dst v) w'':=by
  intro v w'' hb hR
  refine ⟨by rw [put_size,I.tsize],by rw [put_defers,I.defers],fun x hx=>?_,fun j d hj hs' hdj=>?_,I.below.trans (hb.mono I.below.size)⟩
  · rw [put_other v (fun e=>hx i hin hself (by rw [hdo];exact e))]
    refine I.old x fun j hj hs'=>hx j hj ?_
    by_cases e:j=i
    · subst e;exact hself
    · rw [hnew j e];exact hs'
  · by_cases e:j=i
    · subst e
      rw [hdo] at hdj
      rw [hdj,put_same v (by rw [I.tsize];exact hd j d hin (by rw [hdo];exact hdj))]
      exact ⟨v,rfl,hR⟩
    · rw [hnew j e] at hs'
      obtain ⟨u,h1,h2⟩:=I.head j d hj hs' hdj
      rw [put_other v (fun e'=>B.dist j i d hj hin e hdj (by rw [hdo];exact e'))]
      exact ⟨u,h1,hf j hj u w' w'' hb h2⟩
 cases hsi:sk i with
 | true =>
   rw [hw,hsi]
   simp only [Bool.not_true,Bool.false_eq_true,if_false]
   exact post undef w' (Below.refl _ _) ((hsk i o hin hol hsi).2 w')
 | false =>
 rw [hw,hsi]
 simp only [Bool.not_false,if_true]
 left
 have hk : ∀ d,.tmp d∈o.op.operands→Known l n R a d (a'.eval (.tmp d)) w':=by
  intro d hd'
  unfold Known
  cases hm:maker l n d with
  | some j =>
    obtain ⟨hj,hdj⟩:=maker_spec hm
    obtain ⟨hji,hwt⟩:=B.data i o d j hin hol hd' hj hdj
    have hlj:=waits_listed hwt hr
    rw [app_get hs hj] at hlj
    obtain ⟨v,h1,h2⟩:=I.head j d hj hlj hdj
    have:a'.eval (.tmp d)=v:=by simp [Act.eval,Array.getD_eq_getD_getElem?,h1]
    rw [this];exact h2
  | none=>exact eval_tmp (I.old d fun j hj _ e=>maker_none hm j hj e)
 have hrun:=hop i o hin hol hsi a'.eval w' I.below (fun _=>rfl) (fun _=>rfl) (fun _=>rfl) hk
 unfold Oper.wp
 generalize (execOp a'.eval o).run P w'=r at hrun
 cases r with
 | ok nx w'' =>
   cases nx <;> simp only [relUpon] at hrun <;> simp only [Oper.upon]
   case value u=>exact post _ _ hrun.1 hrun.2
   case enter f args =>
    obtain ⟨rfl,hc⟩:=hrun
    refine hc.mono fun e w3 ⟨v,he,hb,hR⟩=>?_
    subst he
    exact post _ _ hb hR
 | halt x w''=>simp only [relUpon] at hrun
theorem ri_anyTS (hn:n≤l.length) (B:RelSB l n) (hgd : ∀ i o g b,i<n→l[i]? = some o→o.guard=some (g,b) → ∀ v w,R g v w→v = .bool (if sk i then !b else b))
 (hsk : ∀ i o,i<n→l[i]? = some o→sk i=true→(∃ gb,o.guard=some gb) ∧ ∀ w,R i undef w)
  (hb:backB .any l n=true) (ht:tailT .any l n=true) (hf : ∀ i,i<n→Firm (R i)) (hd : ∀ i d,i<n→dstAt l i=some d→d<a.tmps.size)
 (hop : ∀ i o,i<n→l[i]? = some o→sk i=false → ∀ (ρ:Operand→Value) w,Below W.heap.size W w→(∀ v,ρ (.const v)=v)→(∀ g,ρ (.global g) = .pointer (some ⟨g,0,none⟩))→(∀ f,ρ (.func f) = .func (.func f) #[] #[]) →
  (∀ d,.tmp d∈o.op.operands→Known l n R a d (ρ (.tmp d)) w)→relUpon P w (R i) ((execOp ρ o).run P w))
 {Q:Exit→Act→World→Prop} (hend : ∀ a' w',RI l n R W a (Array.replicate n true) a' w'→wpAny P .any l.toArray Q (l.length - n) (Array.replicate n true++Array.replicate (l.length - n) false) a' w') :
 ∀ (f:Nat) (s:Array Bool) (a':Act) (w':World),s.size=n→Shut .any l s→unl s=f→RI l n R W a s a' w'→wpAny P .any l.toArray Q (f+(l.length - n)) (s++Array.replicate (l.length - n) false) a' w'
 | 0, s, a', w', hs, _, hu, I => by
   have e:s=Array.replicate n true:=by rw [←hs];exact unl_zero hu
   rw [Nat.zero_add,e]
   rw [e] at I
   exact hend a' w' I
 | f + 1, s, a', w', hs, hsh, hu, I => by
   obtain ⟨k,hk,hun⟩:=unl_pos (s:=s) (by omega)
   rw [show f+1+(l.length - n)=(f+(l.length - n))+1 by omega]
   refine ⟨fun h0=>?_,fun i hi=>?_⟩
   · obtain ⟨i,hi⟩:=ready_some (g:=l.length - n) hs hn hb (k+1) k (by omega) (by omega) hun
     rw [h0] at hi;cases hi
   · have hin:=ready_not_tailT hs hsh (by omega:k<n) hun ht hi
     have hiu:s.getD i true=false:=by have:=(mem_ready.1 hi).1;rwa [app_get hs hin] at this
     refine wpOp_mono (fun a'' w'' I'=>?_) (ri_stepS hn B hgd hsk hf hd hop hs I hin hi hiu)
     rw [app_set (by omega)]
     refine ri_anyTS hn B hgd hsk hb ht hf hd hop hend f _ a'' w'' (by simpa using hs) (shut_set hsh (ready_head hs hin hb hi) hin) ?_ I'
     have:=unl_set (s:=s) (by omega) hiu
     omega
theorem any_relTS {Q:Exit→Act→World→Prop} (n:Nat) (R:Nat→Value→World→Prop) (hB:headRS l n=true) (m:Nat) (hdm:dstB l m=true) (ham:a.tmps.size=m)
 (hgd : ∀ i o g b,i<n→l[i]? = some o→o.guard=some (g,b) → ∀ v w,R g v w→v = .bool (if sk i then !b else b))
 (hsk : ∀ i o,i<n→l[i]? = some o→sk i=true→(∃ gb,o.guard=some gb) ∧ ∀ w,R i undef w)
 (hf : ∀ i,i<n→Firm (R i))
 (hop : ∀ i o,i<n→l[i]? = some o→sk i=false → ∀ (ρ:Operand→Value) w,Below W.heap.size W w→(∀ v,ρ (.const v)=v)→(∀ g,ρ (.global g) = .pointer (some ⟨g,0,none⟩))→(∀ f,ρ (.func f) = .func (.func f) #[] #[]) →
  (∀ d,.tmp d∈o.op.operands→Known l n R a d (ρ (.tmp d)) w)→relUpon P w (R i) ((execOp ρ o).run P w))
 (h : ∀ (vs:List Value) w',vs.length=n→Below W.heap.size W w'→(∀ i v,vs[i]? = some v→R i v w')→wpList P l.toArray Q (l.drop n) (puts (((l.take n).map (·.dst)).zip vs) a) w'):wpAny P .any l.toArray Q l.toArray.size (Array.replicate l.toArray.size false) a { W with drawn:=W.drawn+1 }:=by
 simp only [headRS,Bool.and_eq_true,decide_eq_true_eq] at hB
 obtain ⟨⟨⟨⟨hn,hb⟩,ht⟩,hrel⟩,hseq⟩:=hB
 have B:=relSB_spec hrel
 have hd : ∀ i d,i<n→dstAt l i=some d→d<a.tmps.size:=fun i d _ hd=>by rw [ham];exact dstB_spec hdm hd
 have:=ri_anyTS (Q:=Q) (by omega) B hgd hsk hb ht hf hd hop (fun a' w' I=>?_) n (Array.replicate n false) a { W with drawn:=W.drawn+1 } (by simp) (fun m k h=>by
  simp only [Array.getD_eq_getD_getElem?,Array.getElem?_replicate] at h
  split at h <;> simp at h) (by simp [unl])
  ⟨rfl,rfl,fun x _=>rfl,fun i d _ hs=>(by rw [getD_replicate_false] at hs;cases hs),⟨rfl,rfl,rfl,Nat.le_refl _,fun _ _=>rfl⟩⟩
 · have e:Array.replicate n false++Array.replicate (l.length - n) false=Array.replicate l.toArray.size false:=by
    rw [Array.replicate_append_replicate];congr 1;simp;omega
   rw [e,show n+(l.length - n)=l.toArray.size by simp;omega] at this
   exact this
 · have hv : ∀ i,∃ v,i<n→(∃ d,dstAt l i=some d∧a'.tmps[d]? = some v)∧R i v w':=by
    intro i
    by_cases hi:i<n
    · obtain ⟨o,ho⟩ : ∃ o,l[i]? = some o:=⟨_,List.getElem?_eq_getElem (by omega)⟩
      obtain ⟨d,hdd⟩:=B.dst i o hi ho
      have hdl:dstAt l i=some d:=by simp [dstAt,ho,hdd]
      obtain ⟨v,h1,h2⟩:=I.head i d hi (by simp [hi]) hdl
      exact ⟨v,fun _=>⟨⟨d,hdl,h1⟩,h2⟩⟩
    · exact ⟨undef,fun h=>absurd h hi⟩
   obtain ⟨g,hg⟩:=Classical.axiomOfChoice hv
   have hlen:((List.range n).map g).length=n:=by simp
   have hz : ∀ i,i<n→(((l.take n).map (·.dst)).zip ((List.range n).map g))[i]? = some (dstAt l i,g i):=by
    intro i hi
    rw [(List.getElem?_zip_eq_some (z:=(dstAt l i,g i))).2]
    refine ⟨?_,by simp [hi]⟩
    rw [List.getElem?_map,List.getElem?_take,if_pos hi]
    unfold dstAt
    rw [List.getElem?_eq_getElem (show i<l.length by omega)];rfl
   have hlt : ∀ {i p},(((l.take n).map (·.dst)).zip ((List.range n).map g))[i]? = some p→i<n:=by
    intro i p hp
    have:=(List.getElem?_eq_some_iff.1 hp).1
    simp at this;omega
   have heq:a'=puts (((l.take n).map (·.dst)).zip ((List.range n).map g)) a:=by
    refine act_ext ?_ fun x=>?_
    · rw [(puts_size _ _).2];exact I.defers
    · by_cases hx : ∃ i,i<n∧dstAt l i=some x
      · obtain ⟨i,hi,hdx⟩:=hx
        obtain ⟨⟨d,h1,h2⟩,_⟩:=hg i hi
        rw [hdx] at h1
        obtain rfl:=Option.some.inj h1
        rw [h2]
        symm
        refine puts_in _ a x _ (hd i x hi hdx) ?_ (List.mem_iff_getElem?.2 ⟨i,by rw [hz i hi,hdx]⟩)
        rw [List.pairwise_iff_getElem]
        intro p q hp hq hpq d' e1 e2
        have n1:=hz p (hlt (List.getElem?_eq_getElem hp))
        have n2:=hz q (hlt (List.getElem?_eq_getElem hq))
        rw [List.getElem?_eq_getElem hp] at n1
        rw [List.getElem?_eq_getElem hq] at n2
        rw [Option.some.inj n1] at e1
        rw [Option.some.inj n2] at e2
        exact B.dist p q d' (hlt (List.getElem?_eq_getElem hp)) (hlt (List.getElem?_eq_getElem hq)) (by omega) e1 e2
      · rw [puts_out _ _ x (fun p hp e=>by
         obtain ⟨i,hi⟩:=List.mem_iff_getElem?.1 hp
         have hin:=hlt hi
         rw [hz i hin] at hi
         have:=Option.some.inj hi
         subst this
         exact hx ⟨i,hin,e⟩)]
        exact I.old x fun i hi _ e=>hx ⟨i,hi,e⟩
   have hres:=h ((List.range n).map g) w' hlen I.below (fun i v hi=>by
    have hin:i<n:=by have:=(List.getElem?_eq_some_iff.1 hi).1;simpa using this
    have:v=g i:=by simpa [hin] using hi.symm
    rw [this];exact (hg i hin).2)
   rw [←heq] at hres
   have:=wpAny_of_seq (P:=P) (md:=.any) (ops:=l.toArray) (Q':=Q) (l.drop n) n (Array.replicate n true++Array.replicate (l.length - n) false) a' w' (fun j=>by simp [List.getElem?_drop]) (by simpa using hseq) hres
   simpa using this
theorem wp_region_relTS {id:Nat} {Q:Exit→Act→World→Prop} (n:Nat) (R:Nat→Value→World→Prop) (hm:P.follows .mixedOrders=true) (hB:headRS l n=true) (m:Nat) (hdm:dstB l m=true) (ham:a.tmps.size=m)
 (hgd : ∀ i o g b,i<n→l[i]? = some o→o.guard=some (g,b) → ∀ v w,R g v w→v = .bool (if sk i then !b else b))
 (hsk : ∀ i o,i<n→l[i]? = some o→sk i=true→(∃ gb,o.guard=some gb) ∧ ∀ w,R i undef w)
 (hf : ∀ i,i<n→Firm (R i))
 (hop : ∀ i o,i<n→l[i]? = some o→sk i=false → ∀ (ρ:Operand→Value) w,Below W.heap.size W w→(∀ v,ρ (.const v)=v)→(∀ g,ρ (.global g) = .pointer (some ⟨g,0,none⟩))→(∀ f,ρ (.func f) = .func (.func f) #[] #[]) →
  (∀ d,.tmp d∈o.op.operands→Known l n R a d (ρ (.tmp d)) w)→relUpon P w (R i) ((execOp ρ o).run P w))
 (h : ∀ (vs:List Value) w',vs.length=n→Below W.heap.size W w'→(∀ i v,vs[i]? = some v→R i v w')→wpList P l.toArray Q (l.drop n) (puts (((l.take n).map (·.dst)).zip vs) a) w'):(Code.region id l.toArray true).wp P Q a W :=
 wp_region_any hm (any_relTS (sk:=sk) n R hB m hdm ham hgd hsk hf hop h)
end
end
end Go.Proofs.YtajhkncolbgkbaaDoor
