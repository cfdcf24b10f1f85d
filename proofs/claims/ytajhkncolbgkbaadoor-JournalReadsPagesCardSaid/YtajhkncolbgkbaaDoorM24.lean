/- Jde, Jsa, Jp2: joined by program, for one claim. -/
import Derived.Test.YtajhkncolbgkbaaDoorM23
import Derived.Test.YtajhkncolbgkbaaDoorM15
import Derived.Test.YtajhkncolbgkbaaDoorM21
import Derived.Test.YtajhkncolbgkbaaDoorM16
import Derived.Test.YtajhkncolbgkbaaDoorM22
set_option linter.unusedVariables false
set_option linter.unusedSimpArgs false
namespace Go.Proofs.YtajhkncolbgkbaaDoor
section
open Go.RowKit Go.Sort Go.Maps
def JE (F:Nat→Prop) (B:Nat) (W:World) (dp g mb cap pp jp nn h k:Nat) (L:List (List Int)):Prop :=
 ∃ bank bv t m im s,t≤k * 100∧m≤100+k * 4000∧JD F B W dp g mb cap pp jp nn h bank bv t m im s L
section
variable {F F':Nat→Prop} {B:Nat} {W W':World} {dp g mb cap pp jp nn h k:Nat} {L:List (List Int)}
theorem JE.chg (hJ:JE F B W dp g mb cap pp jp nn h k L) (hc:Chg F W W'):JE F B W' dp g mb cap pp jp nn h k L:=by
 obtain ⟨bank,bv,t,m,im,s,h1,h2,h3⟩:=hJ
 exact ⟨bank,bv,t,m,im,s,h1,h2,h3.chg hc⟩
theorem JE.later (hJ:JE F B W dp g mb cap pp jp nn h k L) (hb:Below W.heap.size W W'):JE F B W' dp g mb cap pp jp nn h k L:=hJ.chg (.ofBelow hb F)
theorem JE.more (hJ:JE F B W dp g mb cap pp jp nn h k L) (hF : ∀ k,F' k→F k∨W.heap.size≤k):JE F' B W dp g mb cap pp jp nn h k L:=by
 obtain ⟨bank,bv,t,m,im,s,h1,h2,h3⟩:=hJ
 exact ⟨bank,bv,t,m,im,s,h1,h2,h3.more hF⟩
theorem JE.up (hJ:JE F B W dp g mb cap pp jp nn h k L) {k':Nat} (hk:k≤k'):JE F B W dp g mb cap pp jp nn h k' L:=by
 obtain ⟨bank,bv,t,m,im,s,h1,h2,h3⟩:=hJ
 have e1:k * 100≤k' * 100:=Nat.mul_le_mul_right _ hk
 have e2:k * 4000≤k' * 4000:=Nat.mul_le_mul_right _ hk
 exact ⟨bank,bv,t,m,im,s,Nat.le_trans h1 e1,Nat.le_trans h2 (Nat.add_le_add_left e2 _),h3⟩
theorem JE.far (hJ:JE F B W dp g mb cap pp jp nn h k L) : ∀ x,JW jp pp dp g mb x → ¬F x∧x<W.heap.size:=fun x hx=>by
 obtain ⟨bank,bv,t,m,im,s,h1,h2,h3⟩:=hJ
 exact ⟨h3.far x hx,h3.ltJ x hx⟩
theorem JE.small (hJ:JE F B W dp g mb cap pp jp nn h k L):L.length≤5800∧(strmP L).length≤11600∧1≤h∧h≤99 ∧ ∀ r∈L,r.length≤8000:=by
 obtain ⟨bank,bv,t,m,im,s,h1,h2,h3⟩:=hJ
 have h4:=h3.small
 have h5:=h3.inj.half
 exact ⟨h4.2.1,by rw [←h3.inj.strm];exact h4.1,h5.2.1,h4.2.2.1,h3.inj.short⟩
theorem JE.fits (hJ:JE F B W dp g mb cap pp jp nn h k L):(strmP L).length≤h * 116:=by
 obtain ⟨bank,bv,t,m,im,s,h1,h2,h3⟩:=hJ
 rw [←h3.inj.strm]
 exact h3.inj.fits
theorem JE.len (hJ:JE F B W dp g mb cap pp jp nn h k L):Calls Tryd.prog 18 #[.pointer (some ⟨jp,0,none⟩)] W fun e w'=>e = .returned (.int .i64 (L.length:Int))∧Below W.heap.size W w':=by
 obtain ⟨bank,bv,t,m,im,s,h1,h2,h3⟩:=hJ
 exact h3.len
theorem JE.used (hJ:JE F B W dp g mb cap pp jp nn h k L):Calls Tryd.prog 21 #[.pointer (some ⟨jp,0,none⟩)] W fun e w'=>e = .returned (.int .i64 ((strmP L).length:Int))∧Below W.heap.size W w':=by
 obtain ⟨bank,bv,t,m,im,s,h1,h2,h3⟩:=hJ
 exact h3.used
theorem JE.room (hJ:JE F B W dp g mb cap pp jp nn h k L):Calls Tryd.prog 22 #[.pointer (some ⟨jp,0,none⟩)] W fun e w'=>e = .returned (.int .i64 ((h * 116 - (strmP L).length:Nat):Int))∧Below W.heap.size W w':=by
 obtain ⟨bank,bv,t,m,im,s,h1,h2,h3⟩:=hJ
 exact h3.room
theorem JE.record (hJ:JE F B W dp g mb cap pp jp nn h k L) (i:Int) (hi : -9223372036854775808≤i∧i≤9223372036854775807):Calls Tryd.prog 17 #[.pointer (some ⟨jp,0,none⟩),.int .i64 i] W fun e w'=>e = .returned (recV L i)∧Below W.heap.size W w':=by
 obtain ⟨bank,bv,t,m,im,s,h1,h2,h3⟩:=hJ
 exact h3.record i hi
theorem JE.records (hJ:JE F B W dp g mb cap pp jp nn h k L):Calls Tryd.prog 20 #[.pointer (some ⟨jp,0,none⟩)] W fun e w' => ∃ v,e = .returned v∧Below W.heap.size W w'∧Ownv w' W.heap.size 9 v (strs L):=by
 obtain ⟨bank,bv,t,m,im,s,h1,h2,h3⟩:=hJ
 exact h3.records
def JEp (F:Nat→Prop) (B dp g mb cap pp jp nn h k:Nat) (L':List (List Int)) (W w':World):Prop:=JE F B w' dp g mb cap pp jp nn h k L'∧Chg (JW jp pp dp g mb) W w'
set_option maxRecDepth 100000 in
theorem JEp.of {er:Int} {t m bank:Nat} {bv:Value} {im:List (List Int)} {s:List Int} {L L':List (List Int)} {v:Value} {e:Ending} (hJ:JD F B W dp g mb cap pp jp nn h bank bv t m im s L) (h1:t≤k * 100) (h2:m≤100+k * 4000) (hp:ApPost F B dp g mb cap pp jp nn h bv t m L L' er v W e W'):JEp F B dp g mb cap pp jp nn h (k+1) (if er=0 then L' else L) W W':=by
 rcases hp with ⟨h0,hb⟩ | ⟨h0,t',m',im',s',bank',ht,hm,hJ',hc⟩
 · rw [if_neg h0]
   exact ⟨⟨bank,bv,t,m,im,s,by omega,by omega,hJ.later hb⟩,.ofBelow hb _⟩
 · rw [if_pos h0]
   exact ⟨⟨bank',bv,t',m',im',s',by omega,by omega,hJ'⟩,hc⟩
theorem JE.append (hJ:JE F B W dp g mb cap pp jp nn h k L) (hF : ∀ x,F x→x<W.heap.size) (hk:k≤100) (r:List Int) (hrb:Byts r) (hr:r.length≤60000) :
 Calls Tryd.prog 9 #[.pointer (some ⟨jp,0,none⟩),.string (strOfNums r)] W fun e w'=>e = .returned (.tuple #[.int .i64 (if apE h L r=0 then (L.length:Int) else 0),.int .i64 (apE h L r)])∧JEp F B dp g mb cap pp jp nn h (k+1) (if apE h L r=0 then L++[r] else L) W w':=by
 obtain ⟨bank,bv,t,m,im,s,h1,h2,h3⟩:=hJ
 exact (jappend_any h3 hF (by omega) (by omega) r hrb hr).mono fun e w' hp=>⟨hp.1,.of h3 h1 h2 hp.2⟩
theorem JE.replace (hJ:JE F B W dp g mb cap pp jp nn h k L) (hF : ∀ x,F x→x<W.heap.size) (hk:k≤100) (a:Option Addr) (c:Nat) (L2:List (List Int)) (hs2:Slv W a (strs L2)) (hL2:L2.length≤100000) (hr2 : ∀ r∈L2,r.length≤60000) (ht2:(strmP L2).length≤1000000) (hb2 : ∀ r∈L2,Byts r) :
 Calls Tryd.prog 12 #[.pointer (some ⟨jp,0,none⟩),.slice a L2.length c] W fun e w'=>e = .returned (.int .i64 (jchkV false h (strmP L2) L2))∧JEp F B dp g mb cap pp jp nn h (k+1) (if jchkV false h (strmP L2) L2=0 then L2 else L) W w':=by
 obtain ⟨bank,bv,t,m,im,s,h1,h2,h3⟩:=hJ
 exact (jreplace_any h3 hF (by omega) (by omega) a c L2 hs2 hL2 hr2 ht2 hb2).mono fun e w' hp=>⟨hp.1,.of h3 h1 h2 hp.2⟩
theorem JE.open_ (hJ:JE F B W dp g mb cap pp jp nn h k L) (hF : ∀ x,F x→x<W.heap.size) (hk:k≤100) (hB:B≤W.heap.size) :
 Calls Tryd.prog 15 #[.pointer (some ⟨dp,0,none⟩)] W fun e w' => ∃ pq jq,e = .returned (.tuple #[.pointer (some ⟨jq,0,none⟩),.int .i64 0])∧JE F B w' dp g mb cap pq jq nn h (k+1) L∧Chg (In3 dp g mb) W w':=by
 obtain ⟨bank,bv,t,m,im,s,h1,h2,h3⟩:=hJ
 refine (reopen_any h3.st.dk (fun x hx=>h3.st.lo x (.inr hx)) (fun x hx=>h3.far x (.inr (.inr hx))) hF h3.inv h3.inj h3.byt (by omega) (by omega) hB).mono ?_
 rintro e w' ⟨pq,jq,bq,he,hj,hc⟩
 exact ⟨pq,jq,he,⟨bank,bq,t,m+20,im,s,by omega,by omega,hj⟩,hc⟩
end
theorem begin_JE (w:World) (n:Nat) (h1:20≤n) (h2:n≤120) :
 Calls Tryd.prog 7 #[.int .i64 (n:Int)] w fun e w' => ∃ dp g mb pp jp,e = .returned (.tuple #[.pointer (some ⟨dp,0,none⟩),.pointer (some ⟨jp,0,none⟩),.bool true])∧JE (fun k=>k<w.heap.size) w.heap.size w' dp g mb n pp jp (n - 17) ((n - 17 - 1) / 2) 0 []∧Below w.heap.size w w':=by
 refine (begin_yes w n h1 h2).mono ?_
 rintro e w' ⟨dp,g,mb,pp,jp,bv,he,hJ,hb⟩
 exact ⟨dp,g,mb,pp,jp,he,⟨0,bv,0,20,_,[],Nat.le_refl _,by omega,hJ⟩,hb⟩
end
section
open Go.RowKit Go.Sort Go.Maps
theorem sa_s1:strOfNums [97,98]=⟨#[97,98]⟩:=rfl
theorem sa_s2:strOfNums []=⟨#[]⟩:=rfl
theorem sa_a1:apE 2 [] [97,98]=0:=by decide
theorem sa_a2:apE 2 [[97,98]] []=0:=by decide
theorem sa_a3:apE 2 [[97,98],[]] (textB 97 225)=21:=by decide +kernel
theorem sa_a4:apE 2 [[97,98],[]] (textB 97 8001)=2:=by decide +kernel
theorem sa_a5:jchkV false 2 (strmP [[120],[121,122]]) [[120],[121,122]]=0:=by decide
theorem sa_b1:Byts [97,98]:=fun x hx=>by simp at hx;omega
theorem sa_b2:Byts []:=fun x hx=>by cases hx
theorem sa_b3 : ∀ r∈[[120],[121,122]],Byts r:=fun r hr x hx=>by
 simp only [List.mem_cons,List.not_mem_nil,or_false] at hr
 rcases hr with rfl | rfl <;> (simp at hx;omega)
theorem two_slv {a b:List Int} {w:World} {k:Nat} (h:Bk w k #[.string (strOfNums a),.string (strOfNums b)] 9):Slv w (some ⟨k,0,none⟩) (strs [a,b]):=fun i x hx=>by
 match i,hx with
 | 0, hx =>
   have e:(strs [a,b])[0]? = some (.string (strOfNums a)):=strs_at rfl
   rw [e] at hx
   rw [←Option.some.inj hx]
   exact ⟨k,0,rfl,h.cell 0 rfl⟩
 | 1, hx =>
   have e:(strs [a,b])[1]? = some (.string (strOfNums b)):=strs_at rfl
   rw [e] at hx
   rw [←Option.some.inj hx]
   exact ⟨k,0,rfl,h.cell 1 rfl⟩
 | i+2,hx=>rw [List.getElem?_eq_none (by rw [strs_length];simp)] at hx;cases hx
set_option maxRecDepth 100000 in
set_option maxHeartbeats 4000000 in
theorem sanity15_true (w:World):Calls Tryd.prog 6 #[] w fun e w'=>e = .returned (.bool true)∧Below w.heap.size w w':=by
 have hbg:=Bx.mk (begin_JE w 22 (by decide) (by decide))
 have hb19:=Bx.mk begin_19
 have htx1:=Bx.mk fun W=>rtext_any 97 (by decide) 225 (by decide) W
 have htx2:=Bx.mk fun W=>rtext_any 97 (by decide) 8001 (by decide) W
 rw [show (225:Int).toNat=225 from rfl] at htx1
 rw [show (8001:Int).toNat=8001 from rfl] at htx2
 go_enter Tryd.func6,Tryd.ntmps6
 go_upto_region 2 with (go_at_call 7;refine hbg.out.mono ?_;rintro _ w1 ⟨dp,g,mb,pp,jp,rfl,hJ,hb⟩)
 have HJ1:=Bx.mk (show JE (fun k=>k<w.heap.size) w.heap.size w1 dp g mb 22 pp jp 5 2 0 [] from hJ)
 have HB1:=Bx.mk hb
 clear hJ hb hbg
 have hcl:=Bx.mk (hb19.out w1)
 go_upto_region 3 with (go_at_call 7;refine hcl.out.mono ?_;rintro _ w2 ⟨dq,rfl,hb⟩)
 have HJ2:=Bx.mk (HJ1.out.later hb)
 have HB2:=Bx.mk (HB1.out.trans (hb.mono HB1.out.size))
 clear hb HJ1 HB1
 clear hcl
 have hcl:=Bx.mk (HJ2.out.len)
 go_wp2_with fail
 refine hcl.out.mono ?_
 rintro _ w3 ⟨rfl,hb⟩
 have HJ3:=Bx.mk (HJ2.out.later hb)
 have HB3:=Bx.mk (HB2.out.trans (hb.mono HB2.out.size))
 clear hb HJ2 HB2
 clear hcl
 have hcl:=Bx.mk (show Calls _ _ _ _ (fun e w'=>e = .returned (.int .i64 232)∧Below w3.heap.size w3 w') from HJ3.out.room)
 go_wp2_with fail
 refine hcl.out.mono ?_
 rintro _ w4 ⟨rfl,hb⟩
 have HJ4:=Bx.mk (HJ3.out.later hb)
 have HB4:=Bx.mk (HB3.out.trans (hb.mono HB3.out.size))
 clear hb HJ3 HB3
 clear hcl
 go_upto_region 5 with fail
 have hcl:=HJ4.out.append (fun x hx=>Nat.lt_of_lt_of_le hx HB4.out.size) (by decide) [97,98] sa_b1 (by decide)
 rw [sa_a1,if_pos rfl,if_pos rfl,sa_s1] at hcl
 replace hcl:=Bx.mk hcl
 go_upto_region 6 with (go_at_call 9;refine hcl.out.mono ?_;rintro _ w5 ⟨rfl,hj,hc⟩)
 have HB5:=Bx.mk (HB4.out.trans (hc.below HB4.out.size fun x hx hS=>(HJ4.out.far x hS).1 hx))
 have HJ5:=Bx.mk (show JE (fun k=>k<w.heap.size) w.heap.size w5 dp g mb 22 pp jp 5 2 1 [[97,98]] from hj)
 clear hj hc hcl HJ4 HB4
 have hcl:=HJ5.out.append (fun x hx=>Nat.lt_of_lt_of_le hx HB5.out.size) (by decide) [] sa_b2 (by decide)
 rw [sa_a2,if_pos rfl,if_pos rfl,sa_s2] at hcl
 replace hcl:=Bx.mk hcl
 go_upto_region 7 with (go_at_call 9;refine hcl.out.mono ?_;rintro _ w6 ⟨rfl,hj,hc⟩)
 have HB6:=Bx.mk (HB5.out.trans (hc.below HB5.out.size fun x hx hS=>(HJ5.out.far x hS).1 hx))
 have HJ6:=Bx.mk (show JE (fun k=>k<w.heap.size) w.heap.size w6 dp g mb 22 pp jp 5 2 2 [[97,98],[]] from hj)
 clear hj hc hcl HJ5 HB5
 have hcl:=Bx.mk (show Calls _ _ _ _ (fun e w'=>e = .returned (.int .i64 6)∧Below w6.heap.size w6 w') from HJ6.out.used)
 go_wp2_with fail
 refine hcl.out.mono ?_
 rintro _ w7 ⟨rfl,hb⟩
 have HJ7:=Bx.mk (HJ6.out.later hb)
 have HB7:=Bx.mk (HB6.out.trans (hb.mono HB6.out.size))
 clear hb HJ6 HB6
 clear hcl
 have hcl:=Bx.mk (show Calls _ _ _ _ (fun e w'=>e = .returned (.int .i64 226)∧Below w7.heap.size w7 w') from HJ7.out.room)
 go_wp2_with fail
 refine hcl.out.mono ?_
 rintro _ w8 ⟨rfl,hb⟩
 have HJ8:=Bx.mk (HJ7.out.later hb)
 have HB8:=Bx.mk (HB7.out.trans (hb.mono HB7.out.size))
 clear hb HJ7 HB7
 clear hcl
 go_upto_region 8 with fail
 have hcl:=Bx.mk (htx1.out w8)
 go_wp2_with fail
 refine hcl.out.mono ?_
 rintro _ w9 ⟨rfl,hb⟩
 have HJ9:=Bx.mk (HJ8.out.later hb)
 have HB9:=Bx.mk (HB8.out.trans (hb.mono HB8.out.size))
 clear hb HJ8 HB8
 clear hcl
 have hcl:=HJ9.out.append (fun x hx=>Nat.lt_of_lt_of_le hx HB9.out.size) (by decide) (textB 97 225) (textB_byts _ _) (by rw [textB_len];decide)
 rw [sa_a3,if_neg (by decide),if_neg (by decide)] at hcl
 replace hcl:=Bx.mk hcl
 go_upto_region 9 with (go_at_call 9;refine hcl.out.mono ?_;rintro _ w10 ⟨rfl,hj,hc⟩)
 have HB10:=Bx.mk (HB9.out.trans (hc.below HB9.out.size fun x hx hS=>(HJ9.out.far x hS).1 hx))
 have HJ10:=Bx.mk (show JE (fun k=>k<w.heap.size) w.heap.size w10 dp g mb 22 pp jp 5 2 3 [[97,98],[]] from hj)
 clear hj hc hcl HJ9 HB9
 have hcl:=Bx.mk (htx2.out w10)
 go_wp2_with fail
 refine hcl.out.mono ?_
 rintro _ w11 ⟨rfl,hb⟩
 have HJ11:=Bx.mk (HJ10.out.later hb)
 have HB11:=Bx.mk (HB10.out.trans (hb.mono HB10.out.size))
 clear hb HJ10 HB10
 clear hcl
 have hcl:=HJ11.out.append (fun x hx=>Nat.lt_of_lt_of_le hx HB11.out.size) (by decide) (textB 97 8001) (textB_byts _ _) (by rw [textB_len];decide)
 rw [sa_a4,if_neg (by decide),if_neg (by decide)] at hcl
 replace hcl:=Bx.mk hcl
 go_upto_region 10 with (go_at_call 9;refine hcl.out.mono ?_;rintro _ w12 ⟨rfl,hj,hc⟩)
 have HB12:=Bx.mk (HB11.out.trans (hc.below HB11.out.size fun x hx hS=>(HJ11.out.far x hS).1 hx))
 have HJ12:=Bx.mk (show JE (fun k=>k<w.heap.size) w.heap.size w12 dp g mb 22 pp jp 5 2 4 [[97,98],[]] from hj)
 clear hj hc hcl HJ11 HB11
 have hcl:=Bx.mk (show Calls _ _ _ _ (fun e w'=>e = .returned (.tuple #[.string ⟨#[97,98]⟩,.bool true])∧Below w12.heap.size w12 w') from HJ12.out.record 0 (by decide))
 go_upto_region 11 with (go_at_call 17;refine hcl.out.mono ?_;rintro _ w13 ⟨rfl,hb⟩)
 have HJ13:=Bx.mk (HJ12.out.later hb)
 have HB13:=Bx.mk (HB12.out.trans (hb.mono HB12.out.size))
 clear hb HJ12 HB12
 clear hcl
 have hcl:=Bx.mk (show Calls _ _ _ _ (fun e w'=>e = .returned (.tuple #[.string ⟨#[]⟩,.bool false])∧Below w13.heap.size w13 w') from HJ13.out.record 2 (by decide))
 go_upto_region 12 with (go_at_call 17;refine hcl.out.mono ?_;rintro _ w14 ⟨rfl,hb⟩)
 have HJ14:=Bx.mk (HJ13.out.later hb)
 have HB14:=Bx.mk (HB13.out.trans (hb.mono HB13.out.size))
 clear hb HJ13 HB13
 clear hcl
 have hba:Below w14.heap.size w14 (w14.alloc (.cells #[.string ⟨#[120]⟩,.string ⟨#[121,122]⟩] 9)):=(Below.refl _ _).alloc (Nat.le_refl _) _
 have HJ15:=Bx.mk (HJ14.out.later hba)
 have HB15:=Bx.mk (HB14.out.trans (hba.mono HB14.out.size))
 have hsl:Slv (w14.alloc (.cells #[.string ⟨#[120]⟩,.string ⟨#[121,122]⟩] 9)) (some ⟨w14.heap.size,0,none⟩) (strs [[120],[121,122]]):=two_slv (Bk.new _ _ _)
 have hcl:=HJ15.out.replace (fun x hx=>Nat.lt_of_lt_of_le hx HB15.out.size) (by decide) (some ⟨w14.heap.size,0,none⟩) 2 [[120],[121,122]] hsl (by decide) (by decide) (by decide) sa_b3
 rw [sa_a5,if_pos rfl] at hcl
 replace hcl:=Bx.mk hcl
 clear hba hsl
 go_upto_region 13 with (go_at_call 12;refine hcl.out.mono ?_;rintro _ w16 ⟨rfl,hj,hc⟩)
 have HB16:=Bx.mk (HB15.out.trans (hc.below HB15.out.size fun x hx hS=>(HJ15.out.far x hS).1 hx))
 have HJ16:=Bx.mk hj
 clear hj hc hcl HJ14 HB14 HJ15 HB15
 have t1:((⟨#[97,98]⟩:ByteArray).toList == (⟨#[97,98]⟩:ByteArray).toList)=true:=by simp
 have hcl:=Bx.mk (HJ16.out.records)
 go_wp2_with fail
 refine hcl.out.mono ?_
 rintro _ w17 ⟨v,rfl,hb,hown⟩
 have HJ17:=Bx.mk (HJ16.out.later hb)
 have HB17:=Bx.mk (HB16.out.trans (hb.mono HB16.out.size))
 obtain ⟨va,vc,rfl,hsv⟩:=hown.form
 rw [show (strs [[120],[121,122]]).length=2 from rfl]
 have HSV:=Bx.mk hsv
 clear hb hcl HJ16 HB16 hown hsv t1
 have hba:Below w17.heap.size w17 (w17.alloc (.cells #[.string ⟨#[120]⟩,.string ⟨#[121,122]⟩] 9)):=(Below.refl _ _).alloc (Nat.le_refl _) _
 have HJ18:=Bx.mk (HJ17.out.later hba)
 have HB18:=Bx.mk (HB17.out.trans (hba.mono HB17.out.size))
 have hcl:=Bx.mk (rsame_yes va (some ⟨w17.heap.size,0,none⟩) vc 2 [[120],[121,122]] (w17.alloc (.cells #[.string ⟨#[120]⟩,.string ⟨#[121,122]⟩] 9)) (HSV.out.below hba) (two_slv (Bk.new _ _ _)) (by decide))
 clear hba HJ17 HB17 HSV
 go_wp2_with fail
 refine hcl.out.mono ?_
 rintro _ w19 ⟨rfl,hb⟩
 have HJ19:=Bx.mk (HJ18.out.later hb)
 have HB19:=Bx.mk (HB18.out.trans (hb.mono HB18.out.size))
 clear hb hcl HJ18 HB18
 have hcl:=Bx.mk (show Calls _ _ _ _ (fun e w'=>e = .returned (.int .i64 2)∧Below w19.heap.size w19 w') from HJ19.out.len)
 go_wp2_with fail
 refine hcl.out.mono ?_
 rintro _ w20 ⟨rfl,hb⟩
 have HJ20:=Bx.mk (HJ19.out.later hb)
 have HB20:=Bx.mk (HB19.out.trans (hb.mono HB19.out.size))
 clear hb HJ19 HB19
 clear hcl
 have hcl:=Bx.mk (show Calls _ _ _ _ (fun e w'=>e = .returned (.int .i64 7)∧Below w20.heap.size w20 w') from HJ20.out.used)
 go_wp2_with fail
 refine hcl.out.mono ?_
 rintro _ w21 ⟨rfl,hb⟩
 have HJ21:=Bx.mk (HJ20.out.later hb)
 have HB21:=Bx.mk (HB20.out.trans (hb.mono HB20.out.size))
 clear hb HJ20 HB20
 clear hcl
 go_wp2_with fail
 go_ret
 exact ⟨rfl,HB21.out⟩
end
section
open Go.RowKit Go.Sort Go.Maps
theorem conP_at (d:Dk) (cl:Bool) {n i:Nat} (h:i<n):(conP d cl n).getD i []=(readP d cl (i:Int)).1:=by
 unfold conP
 rw [List.getD_eq_getElem?_getD,List.getElem?_map,List.getElem?_range h];rfl
theorem conP_mem {d:Dk} {cl:Bool} {n:Nat} {x:List Int} (h:x∈conP d cl n) : ∃ i,i<n∧x=(readP d cl (i:Int)).1:=by
 unfold conP at h
 obtain ⟨i,hi,rfl⟩:=List.mem_map.1 h
 exact ⟨i,List.mem_range.1 hi,rfl⟩
theorem cut_le : ∀ (k:Nat) (s:List Int),s.length≤k → ∀ L,cutS s=some L→L.length≤s.length
 | k, s, hk, L, h => by
   by_cases h0:s=[]
   · subst h0
     rw [cutS_nil] at h
     obtain rfl:=Option.some.inj h
     exact Nat.le_refl _
   · cases hn:nextS s with
     | none=>rw [cutS_none h0 hn] at h;cases h
     | some p =>
       obtain ⟨r,rest⟩:=p
       rw [cutS_some h0 hn] at h
       have hlt:=nextS_lt hn
       cases hc:cutS rest with
       | none=>rw [hc] at h;cases h
       | some L2 =>
         rw [hc] at h
         obtain rfl:=Option.some.inj h
         match k,hk with
         | 0,hk=>exact absurd (List.eq_nil_of_length_eq_zero (by omega)) h0
         | k + 1, hk =>
           have:=cut_le k rest (by omega) L2 hc
           simp only [List.length_cons];omega
theorem openJ_few {n:Nat} {rd:Nat→List Int × Int} {b:Nat} {s:List Int} {L:List (List Int)} (h:openJ n rd = .ok (b,s,L)):L.length≤(n - 1) / 2 * 116:=by
 unfold openJ at h
 split at h
 · cases h
 split at h
 · cases h
 split at h
 · cases h
 rename_i hb
 split at h
 · cases h
 split at h
 · cases h
 rename_i s2 hg L2 hc
 split at h
 · cases h
 obtain ⟨rfl,rfl,rfl⟩:_∧_∧_:=by simpa using h
 have h1:=cut_le _ _ (Nat.le_refl _) _ hc
 have h2:hUsed (rd 0).1≤(n - 1) / 2 * 116:=by
  rcases Nat.lt_or_ge ((n - 1) / 2 * 116) (hUsed (rd 0).1) with h | h
  · exact absurd (.inr (.inl h)) hb
  · exact h
 rw [List.length_take] at h1
 omega
set_option maxRecDepth 100000 in
set_option maxHeartbeats 4000000 in
theorem jp_off (w:World) (n:Int) (hn : -9223372036854775808≤n∧n≤9223372036854775807) (a:Option Addr) (c ln:Nat) (hoff:n<20∨60<n∨16<ln) :
 Calls Tryd.prog 4 #[.int .i64 n,.slice a ln c] w fun e w'=>e = .returned (.bool true)∧Below w.heap.size w w':=by
 have hsan:=Bx.mk (sanity15_true w)
 have t:(decide (n<20)=true)∨(decide (n<20)=false∧decide (n > 60)=true)∨(decide (n<20)=false∧decide (n > 60)=false∧decide ((ln:Int) > 16)=true∧decide (ln > 16)=true∧decide (16<ln)=true):=by
  by_cases h1:n<20
  · exact .inl (by simpa using h1)
  · by_cases h2:60<n
    · exact .inr (.inl ⟨by simp;omega,by simpa using h2⟩)
    · have h3:16<ln:=by omega
      exact .inr (.inr ⟨by simp;omega,by simp;omega,by simp;omega,by simpa using h3,by simpa using h3⟩)
 clear hoff
 rcases t with t1 | ⟨t1,t2⟩ | ⟨t1,t2,t3,t4,t5⟩
 all_goals
  go_enter Tryd.func4,Tryd.ntmps4
  go_upto_region 2 with (go_at_call 6;refine hsan.out.mono ?_;rintro _ w1 ⟨rfl,hb1⟩)
  have HB:=Bx.mk hb1
  clear hb1 hsan
  go_wp2_with fail
  go_ret
  exact ⟨rfl,HB.out⟩
set_option maxRecDepth 100000 in
set_option maxHeartbeats 8000000 in
theorem jp_on (w:World) (N:Nat) (hN:20≤N∧N≤60) (a:Option Addr) (c:Nat) (xs:List (Int × List Int)) (hln:xs.length≤16) (hs:SlP w a xs) (hok : ∀ x∈xs,PwOk x) :
 Calls Tryd.prog 4 #[.int .i64 (N:Int),.slice a xs.length c] w fun e w'=>e = .returned (.bool true)∧Below w.heap.size w w':=by
 have hsan:=Bx.mk (sanity15_true w)
 have HST:=Bx.mk fun W (hb:Below w.heap.size w W)=>hs.below hb
 have HOK:=Bx.mk hok
 obtain ⟨ln,hlne⟩ : ∃ ln,ln=xs.length:=⟨_,rfl⟩
 rw [←hlne] at hln ⊢
 have HLN:=Bx.mk (And.intro hlne hln)
 have HN:=Bx.mk hN
 have hnew:=Bx.mk fun W=>new_ok W N (by omega) (by omega)
 have t1:decide ((N:Int)<20)=false:=by simp;omega
 have t1b:decide (N<20)=false:=by simp;omega
 have t2:decide ((N:Int) > 60)=false:=by simp;omega
 have t2b:decide (N > 60)=false:=by simp;omega
 have t2c:decide (60<N)=false:=by simp;omega
 have t3:decide ((ln:Int) > 16)=false:=by simp;omega
 have t3b:decide (ln > 16)=false:=by simp;omega
 have t3c:decide (16<ln)=false:=by simp;omega
 clear hs hok hlne hN hln
 go_enter Tryd.func4,Tryd.ntmps4
 go_upto_region 2 with (go_at_call 6;refine hsan.out.mono ?_;rintro _ w1 ⟨rfl,hb1⟩)
 have HB1:=Bx.mk hb1
 have hnew1:=Bx.mk (hnew.out w1)
 clear hb1 hsan hnew
 go_upto_region 5 with (go_at_call 23;refine hnew1.out.mono ?_;rintro _ w2 ⟨dp,g,mb,rfl,hd2,l1,l2,l3,hb2⟩)
 clear t1 t1b t2 t2b t2c t3 t3b t3c
 rw [mk_q] at hd2
 have hin : ∀ k,In3 dp g mb k→w1.heap.size≤k:=fun k hk=>by rcases hk with rfl | rfl | rfl <;> assumption
 have hpv:PInv N 0 (List.replicate N (zerosP 128)):=PInv.start (by have:=HN.out;omega)
 obtain ⟨im0,him0⟩ : ∃ im0,im0=List.replicate N (zerosP 128):=⟨_,rfl⟩
 rw [←him0] at hd2 hpv
 have hpl:(qDk im0).p.length=N:=by rw [q_len];exact hpv.len
 have hrep:=replay_calm hpv (q_ok hd2.ok) (by decide) (by have:=HN.out;omega)
 have hop:=St.open_ hd2 hin (by rw [hpl];have:=HN.out;omega) rfl (by decide) (d':=qDk im0) (by rw [now_q];exact hrep) hb2.size
 rw [now_q,mx_calm hpv (by decide)] at hop
 have HOP:=Bx.mk hop
 have HIN:=Bx.mk hin
 have HB2:=Bx.mk hb2
 have HPV:=Bx.mk (And.intro hpv hpl)
 clear hd2 l1 l2 l3 hb2 hin hpv hrep hop hnew1 hpl him0
 go_upto_region 8 with (go_at_call 24;refine HOP.out.mono ?_;rintro _ w3 ⟨pp,bv,rfl,hst3,-,hpp,hc3⟩)
 have hb3:Below w1.heap.size w1 w3:=HB2.out.trans (hc3.below HB2.out.size fun k hk hS=>by have:=HIN.out k hS;omega)
 have HB3:=Bx.mk hb3
 have HS3:=Bx.mk hst3
 clear hst3 hpp hc3 hb3 HOP HB2
 obtain ⟨er,her⟩ : ∃ er,er=chkV false 0 ((N:Int) - 17) xs:=⟨_,rfl⟩
 have HSL3:=Bx.mk (HST.out w3 (HB1.out.trans (HB3.out.mono HB1.out.size)))
 clear HST
 by_cases h0:er=0
 · obtain ⟨L,hxL,hL⟩ : ∃ L:List (Nat × List Int),xs=L.map (fun x=>((x.1:Int),x.2))∧BatchOk N L:=(chk_batch (fun x hx=>(HOK.out x hx).2.2) (by rw [←her];exact h0)).2.2
   have hLl:L.length=ln:=by rw [HLN.out.1,hxL,List.length_map]
   have hpw:=HS3.out.write (by decide) (by decide) a c L (by rw [HPV.out.2];exact hL) (by rw [←hxL];exact HSL3.out) (run_steps (by rw [HPV.out.1.len];exact HPV.out.1.big) (by rw [HPV.out.1.len];exact hL) HPV.out.1.len128) HB3.out.size
   rw [hLl] at hpw
   have hpv:=HPV.out.1.write hL (by decide)
   obtain ⟨im,him⟩ : ∃ im,im=wrote (0+1) L im0:=⟨_,rfl⟩
   rw [←him] at hpw hpv
   have HPW:=Bx.mk hpw
   have HPI:=Bx.mk hpv
   clear hpw hpv him hLl hL hxL her h0 HSL3 HS3 HOK HPV
   go_upto_region 11 with (go_at_call 25;refine HPW.out.mono ?_;rintro _ w4 ⟨rfl,hst4,hb4⟩)
   replace hst4:St w1.heap.size w4 dp g mb N pp (0+20+40) (qDk im) (0+1) bv false:=hst4
   obtain ⟨n,hn⟩ : ∃ n,n=N - 17:=⟨_,rfl⟩
   have HNN:Bx (n+17=N∧3≤n∧n≤43):=⟨by have:=HN.out;omega⟩
   have hpl4:(qDk im).p.length=n+17:=by rw [q_len,HPI.out.len,HNN.out.1]
   have hrd : ∀ i,i<n→readP (qDk im) false (i:Int)=(datD im i,0):=fun i hi=>read_q HPI.out (by have:=HNN.out;omega)
   have hrok : ∀ i:Nat,(readP (qDk im) false (i:Int)).2=0→(readP (qDk im) false (i:Int)).1.length=116∧Byts (readP (qDk im) false (i:Int)).1:=fun i h0=>readP_ok hst4.dk.ok h0
   have hl:Bx (∀ W,Below w4.heap.size w4 W→Calls Tryd.prog 26 #[.pointer (some ⟨pp,0,none⟩)] W fun e w'=>e = .returned (.int .i64 (n:Int))∧W=w'):=⟨fun W hb=>(hst4.later hb).len (by rw [hpl4];omega)⟩
   have hr:Bx (∀ W,Below w4.heap.size w4 W → ∀ k:Nat,k<n→Calls Tryd.prog 27 #[.pointer (some ⟨pp,0,none⟩),.int .i64 (k:Int)] W fun e w'=>e = .returned (.tuple #[.string (strOfNums (readP (qDk im) false (k:Int)).1),.int .i64 (readP (qDk im) false (k:Int)).2])∧Below W.heap.size W w'):=⟨fun W hb k hk=>(hst4.later hb).read (k:Int) (by have:=HNN.out;omega) rfl⟩
   have HB4:=Bx.mk (HB1.out.trans ((HB3.out.trans hb4).mono HB1.out.size))
   have HRD:=Bx.mk hrd
   have HRO:=Bx.mk hrok
   clear hst4 hb4 hpl4 hrd hrok hn HB1 HB3 HPW HPI HIN HN
   go_upto_region 15 with fail
   go_loopw [11,12] (fun v11 v12 wr => ∃ (k:Nat) (q:Value),k≤n∧q=v11∧v12 = .int .i64 k∧Bx (Ownv wr w4.heap.size 9 q (strs (conP (qDk im) false k)))∧Bx (Below w4.heap.size w4 wr)) (fun _ i _=>n - (intOf i).toNat)
   case atStart=>exact ⟨0,_,Nat.zero_le _,rfl,rfl,⟨show Ownv w4 w4.heap.size 9 (.slice none 0 0) [] from Ownv.nil _ _ _⟩,⟨Below.refl _ _⟩⟩
   case round =>
    obtain ⟨k,q,hk,rfl,rfl,HO,HW⟩:=hrel
    have hl1:=Bx.mk (hl.out wr HW.out)
    by_cases hlt:k<n
    · have t0:decide ((k:Int)<(n:Int))=true:=by simp;omega
      have t0b:decide (k<n)=true:=by simpa using hlt
      have hr1:=Bx.mk (hr.out wr HW.out k hlt)
      have hrk:(readP (qDk im) false (k:Int)).2=0:=by rw [HRD.out k hlt]
      have h116:=(HRO.out k hrk).1
      have hc:=Bx.mk (conP_succ (qDk im) false k)
      have hcl:=Bx.mk (conP_len (qDk im) false k)
      rw [hrk] at hr1
      have hsz:(strOfNums (readP (qDk im) false (k:Int)).1).size=116:=by rw [strOfNums_size];exact h116
      clear hrk h116
      generalize strOfNums (readP (qDk im) false (k:Int)).1=S at *
      have Hlt:=Bx.mk (And.intro hlt HNN.out)
      have hk43:k≤43:=by have:=HNN.out;omega
      clear hlt
      go_wp2_with fail
      refine hl1.out.mono ?_
      rintro _ _ ⟨rfl,rfl⟩
      go_wp2_with fail
      refine hr1.out.mono ?_
      rintro _ w5 ⟨rfl,hb5⟩
      have hB5:=HW.out.trans (hb5.mono HW.out.size)
      have hown:=HO.out.below hb5
      have hln:(strs (conP (qDk im) false k)).length≤1000000000:=by rw [strs_length,hcl.out];have:=Hlt.out;omega
      have hle:=hB5.size
      clear hb5 hr1 hl1 HO HW t0 t0b
      go_upto_region 20 with fail
      clear hsz
      go_wp2_with (first
       | (at_builtin
          refine wpList_append_val rfl _ _ 30 rfl 9 (.string ByteArray.empty) 16 (by omega) Tryd.underlying30 (by kernel_rfl) rfl w4.heap.size _ (strs (conP (qDk im) false k)) rfl (hown.alloc _) (.string S) rfl ⟨w5.heap.size,0,none⟩ 1 rfl (cell_new _ _ _) hln (le_alloc hle _) ?_
          intro v1 w6 hown1 hg1 _))
      rw [hc.out] at hown1
      have HO6:=Bx.mk hown1
      have HI6:=Bx.mk ((hB5.alloc hle _).grown hg1 (le_alloc hle _) (fun g hg=>(hown.lt g hg).1))
      clear hown1 hg1 hown hB5 hln hle
      go_roundw
      case rel=>exact ⟨k+1,_,by have:=Hlt.out;omega,rfl,by go_num,HO6,HI6⟩
      case measure=>have:=Hlt.out;simp [intOf];omega
    · obtain rfl:k=n:=by omega
      have t0:decide ((k:Int)<(k:Int))=false:=by simp
      have t0b:decide (k<k)=false:=by simp
      have HR:=Bx.mk hr.out
      clear hlt hr
      obtain ⟨D,hD⟩ : ∃ D,D=conP (qDk im) false k:=⟨_,rfl⟩
      rw [←hD] at HO
      have hDl:D.length=k:=by rw [hD];exact conP_len _ _ _
      obtain ⟨da,dc,rfl,hsl⟩:=HO.out.form
      rw [strs_length,hDl]
      have hrj:=rjread_any wr da dc D hsl (by rw [hDl];have:=HNN.out;omega) (fun x hx=>by
       rw [hD] at hx
       obtain ⟨i,hi,rfl⟩:=conP_mem hx
       exact HRO.out i (by rw [HRD.out i hi]))
      rw [hDl] at hrj
      have hRR:openJ k (rdD D)=openJ k (fun i=>readP (qDk im) false (i:Int)):=openJ_congr fun i hi=>by
       unfold rdD
       rw [hD,conP_at _ _ hi]
       exact Prod.ext rfl (by rw [HRD.out i hi])
      have hjo : ∀ W,Below w4.heap.size w4 W→Calls Tryd.prog 29 #[.pointer (some ⟨pp,0,none⟩)] W (JOpen W pp ((k - 1) / 2) (openJ k (rdD D))):=fun W hb=>by
       rw [hRR]
       exact jopen_any W pp k (by have:=HNN.out;omega) _ (fun i _ h0=>HRO.out i h0) ⟨fun W' hb'=>hl.out W' (hb.trans (hb'.mono hb.size))⟩ ⟨fun W' hb' i hi=>HR.out W' (hb.trans (hb'.mono hb.size)) i hi⟩
      have HFW:Bx (∀ b s T,openJ k (rdD D) = .ok (b,s,T)→T.length≤10000):=⟨fun b s T h=>Nat.le_trans (openJ_few h) (by have:=HNN.out;omega)⟩
      generalize openJ k (rdD D)=R at *
      have HRJ:=Bx.mk hrj
      have HJO:=Bx.mk hjo
      clear hrj hjo hRR hsl hDl hD HO HRO HRD HR HNN hl
      go_wp2_with fail
      refine hl1.out.mono ?_
      rintro _ _ ⟨rfl,rfl⟩
      clear hl1
      cases R with
      | error er =>
        go_upto_region 22 with (go_at_call 28;refine HRJ.out.mono ?_;rintro e5 w5 hq5;unfold RdQ at hq5;obtain ⟨hb5,hne,rfl⟩:=hq5)
        clear t0 t0b
        have hB5:=HW.out.trans (hb5.mono HW.out.size)
        have hjo5:=Bx.mk (HJO.out w5 hB5)
        have n1:(er != 0)=true:=by simpa using hne
        have n2:(er == 0)=false:=by simpa using hne
        have n3:(er != er)=false:=by simp
        have n4 : ¬er=0:=hne
        have HB5:=Bx.mk hB5
        clear hb5 hB5 HRJ HJO hne
        go_upto_region 23 with (go_at_call 29;refine hjo5.out.mono ?_;rintro e6 w6 hq6;unfold JOpen at hq6;obtain ⟨hb6,-,rfl⟩:=hq6)
        have HB6:=Bx.mk (HB4.out.trans ((HB5.out.trans (hb6.mono HB5.out.size)).mono HB4.out.size))
        clear hb6 hjo5
        go_wp2_with fail
        go_ret
        exact ⟨rfl,HB6.out⟩
      | ok p =>
        obtain ⟨bank,s,T⟩:=p
        have HTT:Bx (T.length≤10000):=⟨HFW.out _ _ _ rfl⟩
        clear HFW
        go_upto_region 22 with (go_at_call 28;refine HRJ.out.mono ?_;rintro e5 w5 hq5;unfold RdQ at hq5;obtain ⟨hb5,vq,rfl,hown5⟩:=hq5)
        clear t0 t0b
        obtain ⟨qa,qc,rfl,hs5⟩:=hown5.form
        have hB5:=HW.out.trans (hb5.mono HW.out.size)
        have hjo5:=Bx.mk (HJO.out w5 hB5)
        have HB5:=Bx.mk hB5
        have HS5:=Bx.mk hs5
        rw [strs_length]
        obtain ⟨tl,htl⟩ : ∃ tl,tl=T.length:=⟨_,rfl⟩
        rw [←htl]
        have HTL:=Bx.mk htl
        clear hb5 hB5 HRJ HJO hown5 hs5 htl
        go_upto_region 23 with (go_at_call 29;refine hjo5.out.mono ?_;rintro e6 w6 hq6;unfold JOpen at hq6;obtain ⟨hb6,jb,rv,rfl,hjs,hown6,-⟩:=hq6)
        have HS6:=Bx.mk (HS5.out.below hb6)
        obtain ⟨ra,rc,rfl,hs6⟩:=hown6.form
        rw [strs_length] at hjs
        have hrs:=Bx.mk (jrecords_any w6 jb pp ((k - 1) / 2) bank s false ra rc T hs6 (by have:=HTT.out;omega) hjs)
        have HB6:=Bx.mk (HB5.out.trans (hb6.mono HB5.out.size))
        clear hb6 hjo5 hjs hown6 hs6 HS5
        go_wp2_with fail
        refine hrs.out.mono ?_
        rintro _ w7 ⟨v,rfl,hb7,hown7⟩
        obtain ⟨va,vc,rfl,hs7⟩:=hown7.form
        rw [strs_length,←HTL.out]
        have hsm:=rsame_yes va qa vc qc T w7 hs7 (HS6.out.below hb7) (by have:=HTT.out;omega)
        rw [←HTL.out] at hsm
        replace hsm:=Bx.mk hsm
        have HB7:=Bx.mk (HB6.out.trans (hb7.mono HB6.out.size))
        clear hb7 hown7 hs7 hrs HS6
        go_wp2_with fail
        refine hsm.out.mono ?_
        rintro _ w8 ⟨rfl,hb8⟩
        have HB8:=Bx.mk (HB4.out.trans ((HB7.out.trans (hb8.mono HB7.out.size)).mono HB4.out.size))
        clear hb8 hsm
        go_wp2_with fail
        go_ret
        exact ⟨rfl,HB8.out⟩
 · have hrf:=pwrite_big w3 pp dp 0 g mb _ _ bv false (qDk im0) HS3.out.ps HS3.out.dk a c xs (by have:=HLN.out;omega) HSL3.out (fun x hx=>⟨(HOK.out x hx).1,(HOK.out x hx).2.1⟩) (by rw [HPV.out.2,←her];exact h0)
   rw [HPV.out.2,←her,←HLN.out.1] at hrf
   have HRF:=Bx.mk hrf
   have n1:(er != 0)=true:=by simpa using h0
   have n2:(er == 0)=false:=by simpa using h0
   clear hrf her h0 HSL3 HS3 HOK HPV
   go_upto_region 11 with (go_at_call 25;refine HRF.out.mono ?_;rintro _ w4 ⟨rfl,hb4⟩)
   have HB4:=Bx.mk (HB1.out.trans ((HB3.out.trans (hb4.mono HB3.out.size)).mono HB1.out.size))
   clear hb4 HRF
   go_wp2_with fail
   go_ret
   exact ⟨rfl,HB4.out⟩
theorem jp_true (w:World) (n:Int) (hn : -9223372036854775808≤n∧n≤9223372036854775807) (a:Option Addr) (c:Nat) (xs:List (Int × List Int)) (_hl:xs.length≤9223372036854775807) (hs:SlP w a xs ∧ ∀ x∈xs,PwOk x) :
 Calls Tryd.prog 4 #[.int .i64 n,.slice a xs.length c] w fun e w'=>e = .returned (.bool true)∧Below w.heap.size w w':=by
 by_cases h:n<20∨60<n∨16<xs.length
 · exact jp_off w n hn a c xs.length h
 · obtain ⟨N,rfl⟩:=Int.eq_ofNat_of_zero_le (by omega:0≤n)
   exact jp_on w N (by omega) a c xs (by omega) hs.1 hs.2
end
end Go.Proofs.YtajhkncolbgkbaaDoor
