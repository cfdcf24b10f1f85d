/- Jsa, Jf1: joined by program, for one claim. -/
import Derived.Test.YtajhkncolbgkbaaDoorM23
import Derived.Test.YtajhkncolbgkbaaDoorM22
set_option linter.unusedVariables false
set_option linter.unusedSimpArgs false
namespace Go.Proofs.YtajhkncolbgkbaaDoor
section
open Go.RowKit Go.Sort Go.Maps
theorem sa_s1:strOfNums [97,98]=⟨#[97,98]⟩:=rfl
theorem sa_s2:strOfNums []=⟨#[]⟩:=rfl
theorem sa_a1:apE 2 [] [97,98]=0:=by decide
theorem sa_a2:apE 2 [[97,98]] []=0:=by decide
theorem sa_a3:apE 2 [[97,98],[]] (textB 97 225)=21:=by decide +kernel
theorem sa_a4:apE 2 [[97,98],[]] (textB 97 8001)=2:=by decide +kernel
theorem sa_a5:jchkV false 2 (strmP [[120],[121,122]]) [[120],[121,122]]=0:=by decide
theorem sa_b1:Byts [97,98]:=fun x hx=>by simp at hx;omega
theorem sa_b2:Byts []:=fun x hx=>by cases hx
theorem sa_b3 : ∀ r∈[[120],[121,122]],Byts r:=fun r hr x hx=>by
 simp only [List.mem_cons,List.not_mem_nil,or_false] at hr
 rcases hr with rfl | rfl <;> (simp at hx;omega)
theorem two_slv {a b:List Int} {w:World} {k:Nat} (h:Bk w k #[.string (strOfNums a),.string (strOfNums b)] 9):Slv w (some ⟨k,0,none⟩) (strs [a,b]):=fun i x hx=>by
 match i,hx with
 | 0, hx =>
   have e:(strs [a,b])[0]? = some (.string (strOfNums a)):=strs_at rfl
   rw [e] at hx
   rw [←Option.some.inj hx]
   exact ⟨k,0,rfl,h.cell 0 rfl⟩
 | 1, hx =>
   have e:(strs [a,b])[1]? = some (.string (strOfNums b)):=strs_at rfl
   rw [e] at hx
   rw [←Option.some.inj hx]
   exact ⟨k,0,rfl,h.cell 1 rfl⟩
 | i+2,hx=>rw [List.getElem?_eq_none (by rw [strs_length];simp)] at hx;cases hx
set_option maxRecDepth 100000 in
set_option maxHeartbeats 4000000 in
theorem sanity15_true (w:World):Calls Tryd.prog 6 #[] w fun e w'=>e = .returned (.bool true)∧Below w.heap.size w w':=by
 have hbg:=Bx.mk (begin_JE w 22 (by decide) (by decide))
 have hb19:=Bx.mk begin_19
 have htx1:=Bx.mk fun W=>rtext_any 97 (by decide) 225 (by decide) W
 have htx2:=Bx.mk fun W=>rtext_any 97 (by decide) 8001 (by decide) W
 rw [show (225:Int).toNat=225 from rfl] at htx1
 rw [show (8001:Int).toNat=8001 from rfl] at htx2
 go_enter Tryd.func6,Tryd.ntmps6
 go_upto_region 2 with (go_at_call 7;refine hbg.out.mono ?_;rintro _ w1 ⟨dp,g,mb,pp,jp,rfl,hJ,hb⟩)
 have HJ1:=Bx.mk (show JE (fun k=>k<w.heap.size) w.heap.size w1 dp g mb 22 pp jp 5 2 0 [] from hJ)
 have HB1:=Bx.mk hb
 clear hJ hb hbg
 have hcl:=Bx.mk (hb19.out w1)
 go_upto_region 3 with (go_at_call 7;refine hcl.out.mono ?_;rintro _ w2 ⟨dq,rfl,hb⟩)
 have HJ2:=Bx.mk (HJ1.out.later hb)
 have HB2:=Bx.mk (HB1.out.trans (hb.mono HB1.out.size))
 clear hb HJ1 HB1
 clear hcl
 have hcl:=Bx.mk (HJ2.out.len)
 go_wp2_with fail
 refine hcl.out.mono ?_
 rintro _ w3 ⟨rfl,hb⟩
 have HJ3:=Bx.mk (HJ2.out.later hb)
 have HB3:=Bx.mk (HB2.out.trans (hb.mono HB2.out.size))
 clear hb HJ2 HB2
 clear hcl
 have hcl:=Bx.mk (show Calls _ _ _ _ (fun e w'=>e = .returned (.int .i64 232)∧Below w3.heap.size w3 w') from HJ3.out.room)
 go_wp2_with fail
 refine hcl.out.mono ?_
 rintro _ w4 ⟨rfl,hb⟩
 have HJ4:=Bx.mk (HJ3.out.later hb)
 have HB4:=Bx.mk (HB3.out.trans (hb.mono HB3.out.size))
 clear hb HJ3 HB3
 clear hcl
 go_upto_region 5 with fail
 have hcl:=HJ4.out.append (fun x hx=>Nat.lt_of_lt_of_le hx HB4.out.size) (by decide) [97,98] sa_b1 (by decide)
 rw [sa_a1,if_pos rfl,if_pos rfl,sa_s1] at hcl
 replace hcl:=Bx.mk hcl
 go_upto_region 6 with (go_at_call 9;refine hcl.out.mono ?_;rintro _ w5 ⟨rfl,hj,hc⟩)
 have HB5:=Bx.mk (HB4.out.trans (hc.below HB4.out.size fun x hx hS=>(HJ4.out.far x hS).1 hx))
 have HJ5:=Bx.mk (show JE (fun k=>k<w.heap.size) w.heap.size w5 dp g mb 22 pp jp 5 2 1 [[97,98]] from hj)
 clear hj hc hcl HJ4 HB4
 have hcl:=HJ5.out.append (fun x hx=>Nat.lt_of_lt_of_le hx HB5.out.size) (by decide) [] sa_b2 (by decide)
 rw [sa_a2,if_pos rfl,if_pos rfl,sa_s2] at hcl
 replace hcl:=Bx.mk hcl
 go_upto_region 7 with (go_at_call 9;refine hcl.out.mono ?_;rintro _ w6 ⟨rfl,hj,hc⟩)
 have HB6:=Bx.mk (HB5.out.trans (hc.below HB5.out.size fun x hx hS=>(HJ5.out.far x hS).1 hx))
 have HJ6:=Bx.mk (show JE (fun k=>k<w.heap.size) w.heap.size w6 dp g mb 22 pp jp 5 2 2 [[97,98],[]] from hj)
 clear hj hc hcl HJ5 HB5
 have hcl:=Bx.mk (show Calls _ _ _ _ (fun e w'=>e = .returned (.int .i64 6)∧Below w6.heap.size w6 w') from HJ6.out.used)
 go_wp2_with fail
 refine hcl.out.mono ?_
 rintro _ w7 ⟨rfl,hb⟩
 have HJ7:=Bx.mk (HJ6.out.later hb)
 have HB7:=Bx.mk (HB6.out.trans (hb.mono HB6.out.size))
 clear hb HJ6 HB6
 clear hcl
 have hcl:=Bx.mk (show Calls _ _ _ _ (fun e w'=>e = .returned (.int .i64 226)∧Below w7.heap.size w7 w') from HJ7.out.room)
 go_wp2_with fail
 refine hcl.out.mono ?_
 rintro _ w8 ⟨rfl,hb⟩
 have HJ8:=Bx.mk (HJ7.out.later hb)
 have HB8:=Bx.mk (HB7.out.trans (hb.mono HB7.out.size))
 clear hb HJ7 HB7
 clear hcl
 go_upto_region 8 with fail
 have hcl:=Bx.mk (htx1.out w8)
 go_wp2_with fail
 refine hcl.out.mono ?_
 rintro _ w9 ⟨rfl,hb⟩
 have HJ9:=Bx.mk (HJ8.out.later hb)
 have HB9:=Bx.mk (HB8.out.trans (hb.mono HB8.out.size))
 clear hb HJ8 HB8
 clear hcl
 have hcl:=HJ9.out.append (fun x hx=>Nat.lt_of_lt_of_le hx HB9.out.size) (by decide) (textB 97 225) (textB_byts _ _) (by rw [textB_len];decide)
 rw [sa_a3,if_neg (by decide),if_neg (by decide)] at hcl
 replace hcl:=Bx.mk hcl
 go_upto_region 9 with (go_at_call 9;refine hcl.out.mono ?_;rintro _ w10 ⟨rfl,hj,hc⟩)
 have HB10:=Bx.mk (HB9.out.trans (hc.below HB9.out.size fun x hx hS=>(HJ9.out.far x hS).1 hx))
 have HJ10:=Bx.mk (show JE (fun k=>k<w.heap.size) w.heap.size w10 dp g mb 22 pp jp 5 2 3 [[97,98],[]] from hj)
 clear hj hc hcl HJ9 HB9
 have hcl:=Bx.mk (htx2.out w10)
 go_wp2_with fail
 refine hcl.out.mono ?_
 rintro _ w11 ⟨rfl,hb⟩
 have HJ11:=Bx.mk (HJ10.out.later hb)
 have HB11:=Bx.mk (HB10.out.trans (hb.mono HB10.out.size))
 clear hb HJ10 HB10
 clear hcl
 have hcl:=HJ11.out.append (fun x hx=>Nat.lt_of_lt_of_le hx HB11.out.size) (by decide) (textB 97 8001) (textB_byts _ _) (by rw [textB_len];decide)
 rw [sa_a4,if_neg (by decide),if_neg (by decide)] at hcl
 replace hcl:=Bx.mk hcl
 go_upto_region 10 with (go_at_call 9;refine hcl.out.mono ?_;rintro _ w12 ⟨rfl,hj,hc⟩)
 have HB12:=Bx.mk (HB11.out.trans (hc.below HB11.out.size fun x hx hS=>(HJ11.out.far x hS).1 hx))
 have HJ12:=Bx.mk (show JE (fun k=>k<w.heap.size) w.heap.size w12 dp g mb 22 pp jp 5 2 4 [[97,98],[]] from hj)
 clear hj hc hcl HJ11 HB11
 have hcl:=Bx.mk (show Calls _ _ _ _ (fun e w'=>e = .returned (.tuple #[.string ⟨#[97,98]⟩,.bool true])∧Below w12.heap.size w12 w') from HJ12.out.record 0 (by decide))
 go_upto_region 11 with (go_at_call 17;refine hcl.out.mono ?_;rintro _ w13 ⟨rfl,hb⟩)
 have HJ13:=Bx.mk (HJ12.out.later hb)
 have HB13:=Bx.mk (HB12.out.trans (hb.mono HB12.out.size))
 clear hb HJ12 HB12
 clear hcl
 have hcl:=Bx.mk (show Calls _ _ _ _ (fun e w'=>e = .returned (.tuple #[.string ⟨#[]⟩,.bool false])∧Below w13.heap.size w13 w') from HJ13.out.record 2 (by decide))
 go_upto_region 12 with (go_at_call 17;refine hcl.out.mono ?_;rintro _ w14 ⟨rfl,hb⟩)
 have HJ14:=Bx.mk (HJ13.out.later hb)
 have HB14:=Bx.mk (HB13.out.trans (hb.mono HB13.out.size))
 clear hb HJ13 HB13
 clear hcl
 have hba:Below w14.heap.size w14 (w14.alloc (.cells #[.string ⟨#[120]⟩,.string ⟨#[121,122]⟩] 9)):=(Below.refl _ _).alloc (Nat.le_refl _) _
 have HJ15:=Bx.mk (HJ14.out.later hba)
 have HB15:=Bx.mk (HB14.out.trans (hba.mono HB14.out.size))
 have hsl:Slv (w14.alloc (.cells #[.string ⟨#[120]⟩,.string ⟨#[121,122]⟩] 9)) (some ⟨w14.heap.size,0,none⟩) (strs [[120],[121,122]]):=two_slv (Bk.new _ _ _)
 have hcl:=HJ15.out.replace (fun x hx=>Nat.lt_of_lt_of_le hx HB15.out.size) (by decide) (some ⟨w14.heap.size,0,none⟩) 2 [[120],[121,122]] hsl (by decide) (by decide) (by decide) sa_b3
 rw [sa_a5,if_pos rfl] at hcl
 replace hcl:=Bx.mk hcl
 clear hba hsl
 go_upto_region 13 with (go_at_call 12;refine hcl.out.mono ?_;rintro _ w16 ⟨rfl,hj,hc⟩)
 have HB16:=Bx.mk (HB15.out.trans (hc.below HB15.out.size fun x hx hS=>(HJ15.out.far x hS).1 hx))
 have HJ16:=Bx.mk hj
 clear hj hc hcl HJ14 HB14 HJ15 HB15
 have t1:((⟨#[97,98]⟩:ByteArray).toList == (⟨#[97,98]⟩:ByteArray).toList)=true:=by simp
 have hcl:=Bx.mk (HJ16.out.records)
 go_wp2_with fail
 refine hcl.out.mono ?_
 rintro _ w17 ⟨v,rfl,hb,hown⟩
 have HJ17:=Bx.mk (HJ16.out.later hb)
 have HB17:=Bx.mk (HB16.out.trans (hb.mono HB16.out.size))
 obtain ⟨va,vc,rfl,hsv⟩:=hown.form
 rw [show (strs [[120],[121,122]]).length=2 from rfl]
 have HSV:=Bx.mk hsv
 clear hb hcl HJ16 HB16 hown hsv t1
 have hba:Below w17.heap.size w17 (w17.alloc (.cells #[.string ⟨#[120]⟩,.string ⟨#[121,122]⟩] 9)):=(Below.refl _ _).alloc (Nat.le_refl _) _
 have HJ18:=Bx.mk (HJ17.out.later hba)
 have HB18:=Bx.mk (HB17.out.trans (hba.mono HB17.out.size))
 have hcl:=Bx.mk (rsame_yes va (some ⟨w17.heap.size,0,none⟩) vc 2 [[120],[121,122]] (w17.alloc (.cells #[.string ⟨#[120]⟩,.string ⟨#[121,122]⟩] 9)) (HSV.out.below hba) (two_slv (Bk.new _ _ _)) (by decide))
 clear hba HJ17 HB17 HSV
 go_wp2_with fail
 refine hcl.out.mono ?_
 rintro _ w19 ⟨rfl,hb⟩
 have HJ19:=Bx.mk (HJ18.out.later hb)
 have HB19:=Bx.mk (HB18.out.trans (hb.mono HB18.out.size))
 clear hb hcl HJ18 HB18
 have hcl:=Bx.mk (show Calls _ _ _ _ (fun e w'=>e = .returned (.int .i64 2)∧Below w19.heap.size w19 w') from HJ19.out.len)
 go_wp2_with fail
 refine hcl.out.mono ?_
 rintro _ w20 ⟨rfl,hb⟩
 have HJ20:=Bx.mk (HJ19.out.later hb)
 have HB20:=Bx.mk (HB19.out.trans (hb.mono HB19.out.size))
 clear hb HJ19 HB19
 clear hcl
 have hcl:=Bx.mk (show Calls _ _ _ _ (fun e w'=>e = .returned (.int .i64 7)∧Below w20.heap.size w20 w') from HJ20.out.used)
 go_wp2_with fail
 refine hcl.out.mono ?_
 rintro _ w21 ⟨rfl,hb⟩
 have HJ21:=Bx.mk (HJ20.out.later hb)
 have HB21:=Bx.mk (HB20.out.trans (hb.mono HB20.out.size))
 clear hb HJ20 HB20
 clear hcl
 go_wp2_with fail
 go_ret
 exact ⟨rfl,HB21.out⟩
end
section
open Go.RowKit Go.Sort Go.Maps
set_option maxRecDepth 100000 in
set_option maxHeartbeats 4000000 in
theorem jf_off (w:World) (n:Int) (hn : -9223372036854775808≤n∧n≤9223372036854775807) (a:Option Addr) (c ln:Nat) (hoff:n<20∨120<n∨12<ln) (pg bit:Int) :
 Calls Tryd.prog 5 #[.int .i64 n,.slice a ln c,.int .u8 pg,.int .u16 bit] w fun e w'=>e = .returned (.bool true)∧Below w.heap.size w w':=by
 have hsan:=Bx.mk (sanity15_true w)
 have t:(decide (n<20)=true)∨(decide (n<20)=false∧decide (n > 120)=true)∨(decide (n<20)=false∧decide (n > 120)=false∧decide ((ln:Int) > 12)=true∧decide (ln > 12)=true∧decide (12<ln)=true):=by
  by_cases h1:n<20
  · exact .inl (by simpa using h1)
  · by_cases h2:120<n
    · exact .inr (.inl ⟨by simp;omega,by simpa using h2⟩)
    · have h3:12<ln:=by omega
      exact .inr (.inr ⟨by simp;omega,by simp;omega,by simp;omega,by simpa using h3,by simpa using h3⟩)
 clear hoff
 rcases t with t1 | ⟨t1,t2⟩ | ⟨t1,t2,t3,t4,t5⟩
 all_goals
  go_enter Tryd.func5,Tryd.ntmps5
  go_upto_region 2 with (go_at_call 6;refine hsan.out.mono ?_;rintro _ w1 ⟨rfl,hb1⟩)
  have HB:=Bx.mk hb1
  clear hb1 hsan
  go_wp2_with fail
  go_ret
  exact ⟨rfl,HB.out⟩
set_option maxRecDepth 100000 in
set_option maxHeartbeats 8000000 in
theorem jf_on (w:World) (N:Nat) (hN:20≤N∧N≤120) (a:Option Addr) (c:Nat) (sts:List StB) (hln:sts.length≤12) (hst:StsB w a sts) (pg bit:Int) (hpg:0≤pg∧pg≤255) (hbit:0≤bit∧bit≤65535) :
 Calls Tryd.prog 5 #[.int .i64 (N:Int),.slice a sts.length c,.int .u8 pg,.int .u16 bit] w fun e w'=>e = .returned (.bool true)∧Below w.heap.size w w':=by
 have hsan:=Bx.mk (sanity15_true w)
 have HST:=Bx.mk fun W (hb:Below w.heap.size w W)=>hst.later hb
 obtain ⟨ln,hlne⟩ : ∃ ln,ln=sts.length:=⟨_,rfl⟩
 rw [←hlne] at hln ⊢
 have HLN:=Bx.mk hlne
 have HN:=Bx.mk hN
 obtain ⟨h,hh⟩ : ∃ h,h=(N - 17 - 1) / 2:=⟨_,rfl⟩
 have hbg:=Bx.mk fun W=>begin_JE W N hN.1 hN.2
 rw [←hh] at hbg
 have t1:decide ((N:Int)<20)=false:=by simp;omega
 have t1b:decide (N<20)=false:=by simp;omega
 have t2:decide ((N:Int) > 120)=false:=by simp;omega
 have t2b:decide (N > 120)=false:=by simp;omega
 have t2c:decide (120<N)=false:=by simp;omega
 have t3:decide ((ln:Int) > 12)=false:=by simp;omega
 have t3b:decide (ln > 12)=false:=by simp;omega
 have t3c:decide (12<ln)=false:=by simp;omega
 obtain ⟨pq,hpq⟩ : ∃ pq:Int,pq=pg % (N:Int):=⟨_,rfl⟩
 obtain ⟨bq,hbq⟩ : ∃ bq:Int,bq=bit % 1024:=⟨_,rfl⟩
 have HPQ:Bx ((0≤pq∧pq<(N:Int))∧0≤bq∧bq<1024):=⟨⟨by rw [hpq];exact Int.emod_nonneg _ (by omega),by rw [hpq];exact Int.emod_lt_of_pos _ (by omega)⟩,by rw [hbq];omega,by rw [hbq];omega⟩
 have e1:IntKind.i64.wrap pg=pg:=IntWalk.i64_in _ (by omega)
 have e2:IntKind.i64.wrap bit=bit:=IntWalk.i64_in _ (by omega)
 have e3:pg.tmod (N:Int)=pq:=by rw [hpq,Int.tmod_eq_emod_of_nonneg hpg.1]
 have e4:bit.tmod 1024=bq:=by rw [hbq,Int.tmod_eq_emod_of_nonneg hbit.1]
 have e3b:pg % (N:Int)=pq:=hpq.symm
 have e4b:bit % 1024=bq:=hbq.symm
 have n0 : ¬(N:Int)=0:=by omega
 have n0b:((N:Int) == 0)=false:=by simp;omega
 have n0c : ¬N=0:=by omega
 have p0:(0:Int)≤pg:=hpg.1
 have p1:(0:Int)≤bit:=hbit.1
 have e5:IntKind.i64.wrap pq=pq:=IntWalk.i64_in _ (by have:=HPQ.out;omega)
 have e6:IntKind.i64.wrap bq=bq:=IntWalk.i64_in _ (by have:=HPQ.out;omega)
 have HEE:=Bx.mk (And.intro e1 (And.intro e2 (And.intro e3 (And.intro e4 (And.intro e3b (And.intro e4b (And.intro e5 e6)))))))
 have HNN:=Bx.mk (And.intro n0 (And.intro n0b (And.intro n0c (And.intro p0 p1))))
 clear hst hlne hN hpq hbq hpg hbit e1 e2 e3 e4 e3b e4b e5 e6 n0 n0b n0c p0 p1
 have HHH:=Bx.mk hh
 clear hh
 go_enter Tryd.func5,Tryd.ntmps5
 go_upto_region 2 with (go_at_call 6;refine hsan.out.mono ?_;rintro _ w1 ⟨rfl,hb1⟩)
 have HB1:=Bx.mk hb1
 have hbg1:=Bx.mk (hbg.out w1)
 clear hb1 hsan hbg
 go_upto_region 7 with (go_at_call 7;refine hbg1.out.mono ?_;rintro _ w2 ⟨dp,g,mb,pp,jp,rfl,hJ,hb2⟩)
 have HJ0:=Bx.mk hJ
 have HB2:=Bx.mk hb2
 clear hJ hb2 hbg1 t1 t1b t2 t2b t2c t3 t3b t3c
 go_upto_region 8 with fail
 go_loopw [13] (fun v13 wr => ∃ (i:Nat) (L:List (List Int)),i≤ln∧v13 = .int .i64 i∧Bx (JE (fun x=>x<w1.heap.size) w1.heap.size wr dp g mb N pp jp (N - 17) h i L)∧Bx (Below w1.heap.size w1 wr)) (fun v _=>ln - (intOf v).toNat)
 case atStart=>exact ⟨0,_,Nat.zero_le _,rfl,HJ0,HB2⟩
 case round =>
  clear HJ0 HB2
  obtain ⟨i,L,hi,rfl,HJ,HB⟩:=hrel
  by_cases hlt:i<ln
  · have t0:decide ((i:Int)<(ln:Int))=true:=by simp;omega
    have t0b:decide (i<ln)=true:=by simpa using hlt
    obtain ⟨s,hs⟩ : ∃ s,sts[i]? = some s:=⟨_,List.getElem?_eq_getElem (by rw [←HLN.out];exact hlt)⟩
    have hWr:Below w.heap.size w wr:=HB1.out.trans (HB.out.mono HB1.out.size)
    obtain ⟨ab,ao,rfl,hc0,hok0⟩:=HST.out wr hWr i s hs
    have hsp:=jstep_any HJ.out (fun x hx=>Nat.lt_of_lt_of_le hx HB.out.size) (by omega) s hok0
    obtain ⟨kd,nn,fill,sa,sc,sizes⟩:=s
    obtain ⟨ls,hls⟩ : ∃ ls,ls=sizes.length:=⟨_,rfl⟩
    have c0:wr.cell? ⟨ab,ao+i * 4,none⟩=some (.int .i64 kd):=hc0 0 _ rfl
    have c1:wr.cell? ⟨ab,ao+i * 4+1,none⟩=some (.int .i64 nn):=hc0 1 _ rfl
    have c2:wr.cell? ⟨ab,ao+i * 4+2,none⟩=some (.int .u8 fill):=hc0 2 _ rfl
    have c3:wr.cell? ⟨ab,ao+i * 4+3,none⟩=some (.slice sa ls sc):=by rw [hls];exact hc0 3 _ rfl
    unfold StB.agg at hsp
    dsimp only at hsp
    rw [←hls] at hsp
    replace hsp:=Bx.mk hsp
    have HI16:Bx (i≤12∧i<ln):=⟨by omega⟩
    have hi12:i≤12:=by omega
    have b1:(0:Int)≤(i:Int):=by omega
    have b2:(i:Int)<(ln:Int):=by omega
    clear hs hc0 hok0 hlt hWr hls
    have hkk:((kd == 1)=true)∨((kd == 1)=false∧(kd == 2)=true)∨((kd == 1)=false∧(kd == 2)=false):=by
     by_cases h1:kd=1
     · exact .inl (by simp [h1])
     · by_cases h2:kd=2
       · exact .inr (.inl ⟨by simp [h1],by simp [h2]⟩)
       · exact .inr (.inr ⟨by simp [h1],by simp [h2]⟩)
    rcases hkk with k1 | ⟨k1,k2⟩ | ⟨k1,k2⟩
    rotate_left 2
    · have HJ6:=Bx.mk (HJ.out.up (Nat.le_succ i))
      clear hsp
      go_wp2_with fail
      go_roundw
      case rel=>exact ⟨i+1,L,by have:=HI16.out;omega,by go_num,HJ6,HB⟩
      case measure=>have:=HI16.out;simp [intOf];omega
    all_goals
     go_upto_region 11 with fail
     clear k1
     go_wp2_with fail
     refine hsp.out.mono ?_
     rintro _ w3 ⟨er,v,L',rfl,hp⟩
     have HJ6:=Bx.mk hp.1
     have HB6:=Bx.mk (HB.out.trans (hp.2.below HB.out.size fun x hx hS=>(HJ.out.far _ hS).1 hx))
     clear hp hsp HJ HB c0 c1 c2 c3
     go_wp2_with fail
     go_roundw
     case rel=>exact ⟨i+1,L',by have:=HI16.out;omega,by go_num,HJ6,HB6⟩
     case measure=>have:=HI16.out;simp [intOf];omega
  · obtain rfl:i=ln:=by omega
    have t0:decide ((i:Int)<(i:Int))=false:=by simp
    have t0b:decide (i<i)=false:=by simp
    clear hlt
    have hrs:=Bx.mk HJ.out.records
    go_upto_region 13 with (go_at_call 20;refine hrs.out.mono ?_;rintro _ w3 ⟨v,rfl,hb3,hown⟩)
    clear t0 t0b hrs
    obtain ⟨oa,oc,rfl,hso⟩:=hown.form
    rw [strs_length]
    have hJ3:=HJ.out.later hb3
    have hfar:=hJ3.far
    obtain ⟨bank,bv,t,m,im,s,ht,hm,hJD⟩:=hJ3
    have hlen:(qDk im).p.length=N:=by rw [q_len,hJD.inv.len];have:=HN.out;omega
    have hpv:PInv N t im:=by have:=hJD.inv;rwa [show N - 17+17=N by have:=HN.out;omega] at this
    obtain ⟨pn,z,hpn,hpnN,hz,hzl,hzb,hrot⟩:=rot_in hpv (q_ok hJD.st.dk.ok) HPQ.out.1 HPQ.out.2
    have hro:=rot_any w3 dp g mb N m (qDk im) hJD.st.dk pq bq
    rw [hrot] at hro
    obtain ⟨d',hr1,hr2,hr3,-⟩:=rot_reads hpv (q_ok hJD.st.dk.ok) (by omega) (by have:=HN.out;omega) hpnN hz ⟨hzl,hzb⟩
    have hjo:openJ (N - 17) (fun i=>readP d' false (i:Int)) = .ok (bank,s,L)∨openJ (N - 17) (fun i=>readP d' false (i:Int)) = .error 7:=by
     refine openJ_rot (rd:=fun i=>readP (qDk im) false (i:Int)) (fun i hi=>?_) ?_
     · obtain ⟨s1,h1,h2⟩:=hr3 i (by omega)
       rcases h2 with h2 | ⟨h2,_⟩
       · exact .inl (by show readP d' false (i:Int)=readP (qDk im) false (i:Int);rw [h1,h2])
       · exact .inr (by show (readP d' false (i:Int)).2=7;rw [h2])
     · rw [←hJD.inj.open_ (fun i hi=>datD_len hJD.inv (by omega))]
       exact openJ_congr fun i hi=>read_q hJD.inv (by omega)
    have HRO:=Bx.mk hro
    have HJD:=Bx.mk hJD
    have HFAR:=Bx.mk hfar
    have HD:Bx ((qDk (im.set pn z)).run (replayP (nowI (qDk (im.set pn z))))=(d',0)∧d'.p.length=N∧m≤100000∧L.length≤5800):=⟨hr1,hr2,by omega,hJD.small.2.1⟩
    have HJO:=Bx.mk hjo
    have HSO:=Bx.mk hso
    have HOWN:=Bx.mk hown
    have HB3:=Bx.mk (HB.out.trans (hb3.mono HB.out.size))
    have hsz3:wr.heap.size≤w3.heap.size:=hb3.size
    have HSZ3:=Bx.mk hsz3
    have HLT:Bx (∀ x,JW jp pp dp g mb x→x<wr.heap.size):=⟨fun x hx=>(HJ.out.far x hx).2⟩
    clear hb3 hfar ht hm hJD hlen hpv hpn hpnN hz hzl hzb hrot hro hr1 hr2 hr3 hjo hso hown HJ HB hsz3
    obtain ⟨e1,e2,e3,e4,e3b,e4b,e5,e6⟩:=HEE.out
    obtain ⟨n0,n0b,n0c,p0,p1⟩:=HNN.out
    go_upto_region 14 with (go_at_call 31;refine HRO.out.mono ?_;rintro _ w4 ⟨rfl,hd4,hc4⟩)
    clear e1 e2 e3 e4 e3b e4b e5 e6 n0 n0b n0c p0 p1 HRO
    have hlo : ∀ x,In3 dp g mb x→w1.heap.size≤x:=fun x hx=>HJD.out.st.lo x (.inr hx)
    have hB4:Below w1.heap.size w1 w4:=HB3.out.trans (hc4.below HB3.out.size fun x hx hS=>by have:=hlo x hS;omega)
    have hl4:(qDk (im.set pn z)).p.length=N - 17+17:=by
     have h1:=HJD.out.inv.len
     rw [q_len,List.length_set,h1]
    have hop:=Bx.mk (opened_any hd4 hlo (by rw [hl4];have:=HN.out;omega) rfl (by have:=HD.out.2.2.1;omega) HD.out.1 hB4.size (n:=N - 17) (by rw [HD.out.2.1];have:=HN.out;omega) (by have:=HN.out;omega))
    have HSO4:=Bx.mk (slv_chg HSO.out hc4 fun b hb hS=>by
     obtain ⟨q1,q2,_⟩:=own_at HOWN.out b.block (by rw [hb];rfl)
     have:=HLT.out _ (.inr (.inr hS))
     omega)
    have HQ:Bx (∀ b,oa=some b → ¬In3 dp g mb b.block):=⟨fun b hb hS=>by
     obtain ⟨q1,q2,_⟩:=own_at HOWN.out b.block (by rw [hb];rfl)
     have:=HLT.out _ (.inr (.inr hS))
     omega⟩
    have HB4:=Bx.mk hB4
    have HLO:=Bx.mk hlo
    clear hd4 hc4 hlo hB4 hl4 HSO HOWN
    obtain ⟨ll,hll⟩ : ∃ ll,ll=L.length:=⟨_,rfl⟩
    have HLL:=Bx.mk hll
    rw [←hll]
    clear hll
    rcases HJO.out with hj | hj
    · rw [hj] at hop
      go_upto_region 15 with (go_at_call 15;refine hop.out.mono ?_;rintro e5 w6 ⟨pq2,bv2,w5,hst5,-,hc5,hJ⟩;unfold JOpen at hJ;obtain ⟨hb6,jb,rv,rfl,hjs,hown6,-⟩:=hJ)
      have hb5:Below w1.heap.size w1 w5:=HB4.out.trans (hc5.below HB4.out.size fun x hx hS=>by have:=HLO.out x hS;omega)
      have HSO6:Bx (Slv w6 oa (strs L)):=⟨by
       exact Slv.below (slv_chg HSO4.out hc5 fun b hb hS=>HQ.out b hb hS) hb6⟩
      obtain ⟨ra,rc,rfl,hs6⟩:=hown6.form
      rw [strs_length] at hjs
      have hrs:=Bx.mk (jrecords_any w6 jb pq2 ((N - 17 - 1) / 2) bank s false ra rc L hs6 (by have:=HD.out;omega) hjs)
      have HB6:=Bx.mk (hb5.trans (hb6.mono hb5.size))
      clear hst5 hc5 hb6 hjs hown6 hs6 hb5 hop hj
      go_wp2_with fail
      refine hrs.out.mono ?_
      rintro _ w7 ⟨v,rfl,hb7,hown7⟩
      obtain ⟨va,vc,rfl,hs7⟩:=hown7.form
      rw [strs_length,←HLL.out]
      have hsm:=rsame_yes va oa vc oc L w7 hs7 (HSO6.out.below hb7) (by have:=HD.out;omega)
      rw [←HLL.out] at hsm
      replace hsm:=Bx.mk hsm
      have HB7:=Bx.mk (HB6.out.trans (hb7.mono HB6.out.size))
      clear hb7 hown7 hs7 hrs
      go_wp2_with fail
      refine hsm.out.mono ?_
      rintro _ w8 ⟨rfl,hb8⟩
      have HB8:=Bx.mk (HB1.out.trans ((HB7.out.trans (hb8.mono HB7.out.size)).mono HB1.out.size))
      clear hb8 hsm
      go_wp2_with fail
      go_ret
      exact ⟨rfl,HB8.out⟩
    · rw [hj] at hop
      go_upto_region 15 with (go_at_call 15;refine hop.out.mono ?_;rintro e5 w6 ⟨pq2,bv2,w5,hst5,-,hc5,hJ⟩;unfold JOpen at hJ;obtain ⟨hb6,-,rfl⟩:=hJ)
      have hb5:Below w1.heap.size w1 w5:=HB4.out.trans (hc5.below HB4.out.size fun x hx hS=>by have:=HLO.out x hS;omega)
      have HB8:=Bx.mk (HB1.out.trans ((hb5.trans (hb6.mono hb5.size)).mono HB1.out.size))
      clear hst5 hc5 hb6 hb5 hop hj
      go_wp2_with fail
      go_ret
      exact ⟨rfl,HB8.out⟩
theorem jf_true (w:World) (n:Int) (hn : -9223372036854775808≤n∧n≤9223372036854775807) (a:Option Addr) (c:Nat) (sts:List StB) (_hl:sts.length≤9223372036854775807) (hst:StsB w a sts) (pg:Int) (hpg:0≤pg∧pg≤255) (bit:Int) (hbit:0≤bit∧bit≤65535) :
 Calls Tryd.prog 5 #[.int .i64 n,.slice a sts.length c,.int .u8 pg,.int .u16 bit] w fun e w'=>e = .returned (.bool true)∧Below w.heap.size w w':=by
 by_cases h:n<20∨120<n∨12<sts.length
 · exact jf_off w n hn a c sts.length h pg bit
 · obtain ⟨N,rfl⟩:=Int.eq_ofNat_of_zero_le (by omega:0≤n)
   exact jf_on w N (by omega) a c sts (by omega) hst pg bit hpg hbit
end
end Go.Proofs.YtajhkncolbgkbaaDoor
