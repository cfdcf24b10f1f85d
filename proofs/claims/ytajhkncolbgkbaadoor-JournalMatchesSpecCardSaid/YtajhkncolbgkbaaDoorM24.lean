/- Jm1: joined by program, for one claim. -/
import Derived.Test.YtajhkncolbgkbaaDoorM23
import Derived.Test.YtajhkncolbgkbaaDoorM2
set_option linter.unusedVariables false
set_option linter.unusedSimpArgs false
section
namespace Go.Proofs.YtajhkncolbgkbaaDoor
open Go.RowKit Go.Sort Go.Maps
theorem half_size {n:Nat} (h:20≤n):(n - 18) / 2=(n - 17 - 1) / 2:=by omega
theorem recV_in {L:List (List Int)} {k:Int} {i:Nat} {r:List Int} (hk:k=(i:Int)) (hr:L[i]? = some r):recV L k = .tuple #[.string (strOfNums r),.bool true]:=by
 unfold recV
 rw [if_pos (by omega),hk,Int.toNat_natCast,hr]
theorem recV_out {L:List (List Int)} {k:Int} (h:k<0∨(L.length:Int)≤k):recV L k = .tuple #[.string ⟨#[]⟩,.bool false]:=by
 unfold recV
 split
 · rw [List.getElem?_eq_none (by omega)]
 · rfl
def RcR (m:Nat) (L:List (List Int)) (v:Value) (w:World):Prop := ∃ va vc,v = .slice va m vc∧Slv w va (strs L)
theorem RcR.later {m:Nat} {L:List (List Int)} {v:Value} {w w':World} (h:RcR m L v w) (hb:Below w.heap.size w w'):RcR m L v w':=by
 obtain ⟨va,vc,h1,h2⟩:=h
 exact ⟨va,vc,h1,h2.below hb⟩
theorem RcR.of {m B:Nat} {L:List (List Int)} {v:Value} {w:World} (hm:m=L.length) (h:Ownv w B 9 v (strs L)):RcR m L v w:=by
 obtain ⟨va,vc,rfl,hs⟩:=h.form
 exact ⟨va,vc,by rw [strs_length,hm],hs⟩
set_option maxRecDepth 100000 in
set_option maxHeartbeats 8000000 in
theorem jm_on (w:World) (N:Nat) (hN:20≤N∧N≤120) (a:Option Addr) (c:Nat) (sts:List StB) (hln:sts.length≤16) (hst:StsB w a sts) (kq:Int) (hkq : -9223372036854775808≤kq∧kq≤9223372036854775807) :
 Calls Tryd.prog 3 #[.int .i64 (N:Int),.slice a sts.length c,.int .i64 kq] w fun e w'=>e = .returned (.bool true)∧Below w.heap.size w w':=by
 have hsan:=Bx.mk (sanity15_true w)
 have HST:=Bx.mk fun W (hb:Below w.heap.size w W)=>hst.later hb
 obtain ⟨ln,hlne⟩ : ∃ ln,ln=sts.length:=⟨_,rfl⟩
 rw [←hlne] at hln ⊢
 have HLN:=Bx.mk hlne
 have HN:=Bx.mk hN
 have HKQ:=Bx.mk hkq
 obtain ⟨h,hh⟩ : ∃ h,h=(N - 17 - 1) / 2:=⟨_,rfl⟩
 have hbg:=Bx.mk fun W=>begin_JE W N hN.1 hN.2
 have hbk:=Bx.mk fun W=>rbank_any N hN.1 (by omega) W
 rw [half_size hN.1,←hh] at hbk
 rw [←hh] at hbg
 have t1:decide ((N:Int)<20)=false:=by simp;omega
 have t1b:decide (N<20)=false:=by simp;omega
 have t2:decide ((N:Int) > 120)=false:=by simp;omega
 have t2b:decide (N > 120)=false:=by simp;omega
 have t2c:decide (120<N)=false:=by simp;omega
 have t3:decide ((ln:Int) > 16)=false:=by simp;omega
 have t3b:decide (ln > 16)=false:=by simp;omega
 have t3c:decide (16<ln)=false:=by simp;omega
 clear hst hlne hN hkq
 have HHH:=Bx.mk hh
 clear hh
 go_enter Tryd.func3,Tryd.ntmps3
 go_upto_region 2 with (go_at_call 6;refine hsan.out.mono ?_;rintro _ w1 ⟨rfl,hb1⟩)
 have HB1:=Bx.mk hb1
 have hbg1:=Bx.mk (hbg.out w1)
 clear hb1 hsan hbg
 go_upto_region 7 with (go_at_call 7;refine hbg1.out.mono ?_;rintro _ w2 ⟨dp,g,mb,pp0,jp0,rfl,hJ,hb2⟩)
 have HJ0:=Bx.mk hJ
 have HB2:=Bx.mk hb2
 clear hJ hb2 hbg1 t1 t1b t2 t2b t2c t3 t3b t3c
 have hbk2:=Bx.mk (hbk.out w2)
 clear hbk
 go_upto_region 8 with (go_at_call 8;refine hbk2.out.mono ?_;rintro _ wq ⟨rfl,hq⟩;have hq2:w2=wq:=hq.symm;subst hq2)
 generalize hW:World.alloc w2 _=w3
 have hb3:=bl1 hW
 have hk3:Bk w3 w2.heap.size #[.int .i64 ((h * 116:Nat):Int),.slice none 0 0] 32:=bk0 hW rfl
 obtain ⟨tb,htb⟩ : ∃ tb,tb=w2.heap.size:=⟨_,rfl⟩
 rw [←htb] at hk3 ⊢
 have HI0:Bx (JmI w1 tb dp g mb N pp0 jp0 (N - 17) h 0 none 0 [] [] w3):=⟨⟨(HJ0.out.more (F':=JmF w1 tb none) fun x hx=>by
  rcases hx with hx | hx | ⟨b,hb,_⟩
  · exact .inl hx
  · exact .inr (by omega)
  · cases hb).later hb3,⟨hk3,fun i x hx=>by simp [strs] at hx,fun b hb=>by cases hb⟩,HB2.out.trans (hb3.mono HB2.out.size),by have:=HB2.out.size;omega⟩⟩
 clear hW hb3 hk3 htb HJ0 HB2 hbk2
 go_upto_region 9 with fail
 go_loopw [6,9,12] (fun v6 v9 v12 wr => ∃ (i jp pp:Nat) (ra:Option Addr) (rc:Nat) (L:List (List Int)),i≤ln∧v6 = .bool false∧v9 = .pointer (some ⟨jp,0,none⟩)∧v12 = .int .i64 i∧Bx (JmI w1 tb dp g mb N pp jp (N - 17) h i ra rc L L wr)) (fun _ _ v _=>ln - (intOf v).toNat)
 case atStart=>exact ⟨0,_,_,_,_,_,Nat.zero_le _,rfl,rfl,rfl,HI0⟩
 case round =>
  clear HI0
  obtain ⟨i,jp,pp,ra,rc,L,hi,rfl,rfl,rfl,HI⟩:=hrel
  by_cases hlt:i<ln
  · have t0:decide ((i:Int)<(ln:Int))=true:=by simp;omega
    have t0b:decide (i<ln)=true:=by simpa using hlt
    obtain ⟨s,hs⟩ : ∃ s,sts[i]? = some s:=⟨_,List.getElem?_eq_getElem (by rw [←HLN.out];exact hlt)⟩
    have hWr:Below w.heap.size w wr:=HB1.out.trans (HI.out.bel.mono HB1.out.size)
    obtain ⟨ab,ao,rfl,hc0,hok0⟩:=HST.out wr hWr i s hs
    have HC:Bx (∀ W',Below w.heap.size w W'→W'.rangeAt ab (ao+i * 4) s.cells∧s.Ok W'):=⟨fun W' hb=>by
     obtain ⟨b,o,e,h1,h2⟩:=HST.out W' hb i s hs
     simp only [Option.some.injEq,Addr.mk.injEq,and_true] at e
     obtain ⟨rfl,rfl⟩:=e
     exact ⟨h1,h2⟩⟩
    have HWr:=Bx.mk hWr
    have HSM:=Bx.mk HI.out.je.small
    obtain ⟨kd,nn,fill,sa,sc,sizes⟩:=s
    have c0:wr.cell? ⟨ab,ao+i * 4,none⟩=some (.int .i64 kd):=hc0 0 _ rfl
    have hfill:0≤fill∧fill≤255:=hok0.fill
    have hnn : -9223372036854775808≤nn∧nn≤9223372036854775807:=hok0.n
    have Hlt:=Bx.mk hlt
    have HI16:Bx (i≤16∧i<ln):=⟨by omega⟩
    have b1:(0:Int)≤(i:Int):=by omega
    have b2:(i:Int)<(ln:Int):=by omega
    clear hs hc0 hok0 hlt hWr
    go_upto_block 2 with fail
    clear t0 t0b c0
    go_cut [6,9,13,14,15,16,17,18,19,20] from 50 to 133 (fun v6 v9 _ _ _ _ _ _ _ _ wx => ∃ (jp' pp':Nat) (ra':Option Addr) (rc':Nat) (L':List (List Int)),v6 = .bool false∧v9 = .pointer (some ⟨jp',0,none⟩)∧Bx (JmI w1 tb dp g mb N pp' jp' (N - 17) h (i+1) ra' rc' L' L' wx))
    case first =>
     by_cases hk1:kd=1
     · -- Append
       have k1:(kd == 1)=true:=by simp [hk1]
       obtain ⟨r,hr⟩ : ∃ r,r=textB fill nn.toNat:=⟨_,rfl⟩
       have htx:=Bx.mk fun (wx:World)=>rtext_any fill hfill nn hnn wx
       rw [←hr] at htx
       have HR:Bx (Byts r∧r.length≤8100):=⟨by rw [hr];exact textB_byts _ _,by rw [hr,textB_len];omega⟩
       have HC2:Bx (∀ W',Below w.heap.size w W'→W'.cell? ⟨ab,ao+i * 4+2,none⟩=some (.int .u8 fill)):=⟨fun W' hb=>(HC.out W' hb).1 2 _ rfl⟩
       have HC1:Bx (∀ W',Below w.heap.size w W'→W'.cell? ⟨ab,ao+i * 4+1,none⟩=some (.int .i64 nn)):=⟨fun W' hb=>(HC.out W' hb).1 1 _ rfl⟩
       clear hk1 hr HC hfill hnn
       go_upto_region 17 with fail
       refine wp_region_relX 12 1 (fun ii v w'=>match ii with
        | 0=>v = .pointer (some ⟨jp,0,none⟩)
        | 1=>v = .slice (some ⟨ab,ao,none⟩) ln c
        | 2=>v = .int .i64 (i:Int)
        | 3=>v = .pointer (some ⟨ab,ao+i * 4,none⟩)
        | 4=>v = .pointer (some ⟨ab,ao+i * 4+2,none⟩)
        | 5=>v = .int .u8 fill
        | 6=>v = .slice (some ⟨ab,ao,none⟩) ln c
        | 7=>v = .int .i64 (i:Int)
        | 8=>v = .pointer (some ⟨ab,ao+i * 4,none⟩)
        | 9=>v = .pointer (some ⟨ab,ao+i * 4+1,none⟩)
        | 10=>v = .int .i64 nn
        | _=>v = .string (strOfNums r)) (by kernel_rfl) (by kernel_rfl) 219 (by kernel_rfl) (by rfl) ?_ ?_ ?_
       · intro ii hi v u1 u2 hb h
         match ii,hi with
         | 0,_=>exact h
         | 1,_=>exact h
         | 2,_=>exact h
         | 3,_=>exact h
         | 4,_=>exact h
         | 5,_=>exact h
         | 6,_=>exact h
         | 7,_=>exact h
         | 8,_=>exact h
         | 9,_=>exact h
         | 10,_=>exact h
         | 11,_=>exact h
       · intro ii o hi ho ρ wx hb hc1 hc2 hc3 hk
         match ii,hi with
         | 0, _ =>
           obtain rfl:=Option.some.inj ho
           have g0:ρ (.tmp 9) = .pointer (some ⟨jp,0,none⟩):=hk 9 (by simp [Op.operands,Call.operands])
           clear hk hb HI HC1 HC2 htx HST HR
           go_simp
           exact Below.refl _ _
         | 1, _ =>
           obtain rfl:=Option.some.inj ho
           have g0:ρ (.tmp 1) = .slice (some ⟨ab,ao,none⟩) ln c:=hk 1 (by simp [Op.operands,Call.operands])
           clear hk hb HI HC1 HC2 htx HST HR
           go_simp
           exact Below.refl _ _
         | 2, _ =>
           obtain rfl:=Option.some.inj ho
           have g0:ρ (.tmp 12) = .int .i64 (i:Int):=hk 12 (by simp [Op.operands,Call.operands])
           clear hk hb HI HC1 HC2 htx HST HR
           go_simp
           exact Below.refl _ _
         | 3, _ =>
           obtain rfl:=Option.some.inj ho
           have g0:ρ (.tmp 77) = .slice (some ⟨ab,ao,none⟩) ln c:=hk 77 (by simp [Op.operands,Call.operands])
           have g1:ρ (.tmp 78) = .int .i64 (i:Int):=hk 78 (by simp [Op.operands,Call.operands])
           clear hk hb HI HC1 HC2 htx HST HR
           go_simp
           exact Below.refl _ _
         | 4, _ =>
           obtain rfl:=Option.some.inj ho
           have g0:ρ (.tmp 79) = .pointer (some ⟨ab,ao+i * 4,none⟩):=hk 79 (by simp [Op.operands,Call.operands])
           clear hk hb HI HC1 HC2 htx HST HR
           go_simp
           exact Below.refl _ _
         | 5, _ =>
           obtain rfl:=Option.some.inj ho
           have g0:ρ (.tmp 80) = .pointer (some ⟨ab,ao+i * 4+2,none⟩):=hk 80 (by simp [Op.operands,Call.operands])
           have zz:=HC2.out wx (HWr.out.trans (hb.mono HWr.out.size))
           clear hk hb HI HC1 HC2 htx HST HR
           go_simp
           exact Below.refl _ _
         | 6, _ =>
           obtain rfl:=Option.some.inj ho
           have g0:ρ (.tmp 1) = .slice (some ⟨ab,ao,none⟩) ln c:=hk 1 (by simp [Op.operands,Call.operands])
           clear hk hb HI HC1 HC2 htx HST HR
           go_simp
           exact Below.refl _ _
         | 7, _ =>
           obtain rfl:=Option.some.inj ho
           have g0:ρ (.tmp 12) = .int .i64 (i:Int):=hk 12 (by simp [Op.operands,Call.operands])
           clear hk hb HI HC1 HC2 htx HST HR
           go_simp
           exact Below.refl _ _
         | 8, _ =>
           obtain rfl:=Option.some.inj ho
           have g0:ρ (.tmp 82) = .slice (some ⟨ab,ao,none⟩) ln c:=hk 82 (by simp [Op.operands,Call.operands])
           have g1:ρ (.tmp 83) = .int .i64 (i:Int):=hk 83 (by simp [Op.operands,Call.operands])
           clear hk hb HI HC1 HC2 htx HST HR
           go_simp
           exact Below.refl _ _
         | 9, _ =>
           obtain rfl:=Option.some.inj ho
           have g0:ρ (.tmp 84) = .pointer (some ⟨ab,ao+i * 4,none⟩):=hk 84 (by simp [Op.operands,Call.operands])
           clear hk hb HI HC1 HC2 htx HST HR
           go_simp
           exact Below.refl _ _
         | 10, _ =>
           obtain rfl:=Option.some.inj ho
           have g0:ρ (.tmp 85) = .pointer (some ⟨ab,ao+i * 4+1,none⟩):=hk 85 (by simp [Op.operands,Call.operands])
           have zz:=HC1.out wx (HWr.out.trans (hb.mono HWr.out.size))
           clear hk hb HI HC1 HC2 htx HST HR
           go_simp
           exact Below.refl _ _
         | 11, _ =>
           obtain rfl:=Option.some.inj ho
           have g0:ρ (.tmp 81) = .int .u8 fill:=hk 81 (by simp [Op.operands,Call.operands])
           have g1:ρ (.tmp 86) = .int .i64 nn:=hk 86 (by simp [Op.operands,Call.operands])
           have h4:=htx.out wx
           have H4:=Bx.mk h4
           clear h4
           clear hk hb HI HC1 HC2 htx HST HR
           go_simp
           all_goals exact H4.out
       · intro vs w3 hlen hb hR
         match vs,hlen with
         | [v0, v1, v2, v3, v4, v5, v6, v7, v8, v9, v10, v11], _ =>
           have r0:v0 = .pointer (some ⟨jp,0,none⟩):=hR 0 v0 rfl
           have r1:v1 = .slice (some ⟨ab,ao,none⟩) ln c:=hR 1 v1 rfl
           have r2:v2 = .int .i64 (i:Int):=hR 2 v2 rfl
           have r3:v3 = .pointer (some ⟨ab,ao+i * 4,none⟩):=hR 3 v3 rfl
           have r4:v4 = .pointer (some ⟨ab,ao+i * 4+2,none⟩):=hR 4 v4 rfl
           have r5:v5 = .int .u8 fill:=hR 5 v5 rfl
           have r6:v6 = .slice (some ⟨ab,ao,none⟩) ln c:=hR 6 v6 rfl
           have r7:v7 = .int .i64 (i:Int):=hR 7 v7 rfl
           have r8:v8 = .pointer (some ⟨ab,ao+i * 4,none⟩):=hR 8 v8 rfl
           have r9:v9 = .pointer (some ⟨ab,ao+i * 4+1,none⟩):=hR 9 v9 rfl
           have r10:v10 = .int .i64 nn:=hR 10 v10 rfl
           have r11:v11 = .string (strOfNums r):=hR 11 v11 rfl
           clear hR
           subst r0 r1 r2 r3 r4 r5 r6 r7 r8 r9 r10 r11
           have HI3:=Bx.mk (HI.out.later hb)
           have HW3:=Bx.mk (HWr.out.trans (hb.mono HWr.out.size))
           obtain ⟨er,her⟩ : ∃ er,er=apE h L r:=⟨_,rfl⟩
           have hap:=HI3.out.je.append HI3.out.flt (by have:=HI16.out;omega) r HR.out.1 (by have:=HR.out.2;omega)
           rw [←her] at hap
           obtain ⟨L2,hL2⟩ : ∃ L2,L2=(if er=0 then L++[r] else L):=⟨_,rfl⟩
           have HL2:=Bx.mk hL2
           obtain ⟨rn,hrn⟩ : ∃ rn:Int,rn=(if er=0 then (L.length:Int) else 0):=⟨_,rfl⟩
           rw [←hL2,←hrn] at hap
           have HE:=Bx.mk (And.intro her hrn)
           replace hap:=Bx.mk hap
           clear hb HI her hrn hL2
           simp only [puts,List.take_succ_cons,List.take_zero,List.drop_succ_cons,List.drop_zero,List.map_cons,List.map_nil,List.zip_cons_cons,List.zip_nil_right,List.foldl_cons,List.foldl_nil]
           go_upto_region 18 with (go_at_call 9;refine hap.out.mono ?_;rintro _ w4 ⟨rfl,hp⟩)
           have HI4:=Bx.mk (HI3.out.jop hp)
           have HW4:=Bx.mk (HB1.out.trans (HI4.out.bel.mono HB1.out.size))
           clear hp hap HI3 HW3
           refine wp_region_relX 12 1 (fun ii v w'=>match ii with
            | 0=>v = .pointer (some ⟨tb,0,none⟩)
            | 1=>v = .slice (some ⟨ab,ao,none⟩) ln c
            | 2=>v = .int .i64 (i:Int)
            | 3=>v = .pointer (some ⟨ab,ao+i * 4,none⟩)
            | 4=>v = .pointer (some ⟨ab,ao+i * 4+2,none⟩)
            | 5=>v = .int .u8 fill
            | 6=>v = .slice (some ⟨ab,ao,none⟩) ln c
            | 7=>v = .int .i64 (i:Int)
            | 8=>v = .pointer (some ⟨ab,ao+i * 4,none⟩)
            | 9=>v = .pointer (some ⟨ab,ao+i * 4+1,none⟩)
            | 10=>v = .int .i64 nn
            | _=>v = .string (strOfNums r)) (by kernel_rfl) (by kernel_rfl) 219 (by kernel_rfl) (by rfl) ?_ ?_ ?_
           · intro ii hi v u1 u2 hb h
             match ii,hi with
             | 0,_=>exact h
             | 1,_=>exact h
             | 2,_=>exact h
             | 3,_=>exact h
             | 4,_=>exact h
             | 5,_=>exact h
             | 6,_=>exact h
             | 7,_=>exact h
             | 8,_=>exact h
             | 9,_=>exact h
             | 10,_=>exact h
             | 11,_=>exact h
           · intro ii o hi ho ρ wx hb hc1 hc2 hc3 hk
             match ii,hi with
             | 0, _ =>
               obtain rfl:=Option.some.inj ho
               have g0:ρ (.tmp 11) = .pointer (some ⟨tb,0,none⟩):=hk 11 (by simp [Op.operands,Call.operands])
               clear hk hb HI4 HC1 HC2 htx HST HR HW4
               go_simp
               exact Below.refl _ _
             | 1, _ =>
               obtain rfl:=Option.some.inj ho
               have g0:ρ (.tmp 1) = .slice (some ⟨ab,ao,none⟩) ln c:=hk 1 (by simp [Op.operands,Call.operands])
               clear hk hb HI4 HC1 HC2 htx HST HR HW4
               go_simp
               exact Below.refl _ _
             | 2, _ =>
               obtain rfl:=Option.some.inj ho
               have g0:ρ (.tmp 12) = .int .i64 (i:Int):=hk 12 (by simp [Op.operands,Call.operands])
               clear hk hb HI4 HC1 HC2 htx HST HR HW4
               go_simp
               exact Below.refl _ _
             | 3, _ =>
               obtain rfl:=Option.some.inj ho
               have g0:ρ (.tmp 93) = .slice (some ⟨ab,ao,none⟩) ln c:=hk 93 (by simp [Op.operands,Call.operands])
               have g1:ρ (.tmp 94) = .int .i64 (i:Int):=hk 94 (by simp [Op.operands,Call.operands])
               clear hk hb HI4 HC1 HC2 htx HST HR HW4
               go_simp
               exact Below.refl _ _
             | 4, _ =>
               obtain rfl:=Option.some.inj ho
               have g0:ρ (.tmp 95) = .pointer (some ⟨ab,ao+i * 4,none⟩):=hk 95 (by simp [Op.operands,Call.operands])
               clear hk hb HI4 HC1 HC2 htx HST HR HW4
               go_simp
               exact Below.refl _ _
             | 5, _ =>
               obtain rfl:=Option.some.inj ho
               have g0:ρ (.tmp 96) = .pointer (some ⟨ab,ao+i * 4+2,none⟩):=hk 96 (by simp [Op.operands,Call.operands])
               have zz:=HC2.out wx (HW4.out.trans (hb.mono HW4.out.size))
               clear hk hb HI4 HC1 HC2 htx HST HR HW4
               go_simp
               exact Below.refl _ _
             | 6, _ =>
               obtain rfl:=Option.some.inj ho
               have g0:ρ (.tmp 1) = .slice (some ⟨ab,ao,none⟩) ln c:=hk 1 (by simp [Op.operands,Call.operands])
               clear hk hb HI4 HC1 HC2 htx HST HR HW4
               go_simp
               exact Below.refl _ _
             | 7, _ =>
               obtain rfl:=Option.some.inj ho
               have g0:ρ (.tmp 12) = .int .i64 (i:Int):=hk 12 (by simp [Op.operands,Call.operands])
               clear hk hb HI4 HC1 HC2 htx HST HR HW4
               go_simp
               exact Below.refl _ _
             | 8, _ =>
               obtain rfl:=Option.some.inj ho
               have g0:ρ (.tmp 98) = .slice (some ⟨ab,ao,none⟩) ln c:=hk 98 (by simp [Op.operands,Call.operands])
               have g1:ρ (.tmp 99) = .int .i64 (i:Int):=hk 99 (by simp [Op.operands,Call.operands])
               clear hk hb HI4 HC1 HC2 htx HST HR HW4
               go_simp
               exact Below.refl _ _
             | 9, _ =>
               obtain rfl:=Option.some.inj ho
               have g0:ρ (.tmp 100) = .pointer (some ⟨ab,ao+i * 4,none⟩):=hk 100 (by simp [Op.operands,Call.operands])
               clear hk hb HI4 HC1 HC2 htx HST HR HW4
               go_simp
               exact Below.refl _ _
             | 10, _ =>
               obtain rfl:=Option.some.inj ho
               have g0:ρ (.tmp 101) = .pointer (some ⟨ab,ao+i * 4+1,none⟩):=hk 101 (by simp [Op.operands,Call.operands])
               have zz:=HC1.out wx (HW4.out.trans (hb.mono HW4.out.size))
               clear hk hb HI4 HC1 HC2 htx HST HR HW4
               go_simp
               exact Below.refl _ _
             | 11, _ =>
               obtain rfl:=Option.some.inj ho
               have g0:ρ (.tmp 97) = .int .u8 fill:=hk 97 (by simp [Op.operands,Call.operands])
               have g1:ρ (.tmp 102) = .int .i64 nn:=hk 102 (by simp [Op.operands,Call.operands])
               have h4:=htx.out wx
               have H4:=Bx.mk h4
               clear h4
               clear hk hb HI4 HC1 HC2 htx HST HR HW4
               go_simp
               all_goals exact H4.out
           · intro vs w5 hlen hb hR
             match vs,hlen with
             | [v0, v1, v2, v3, v4, v5, v6, v7, v8, v9, v10, v11], _ =>
               have r0:v0 = .pointer (some ⟨tb,0,none⟩):=hR 0 v0 rfl
               have r1:v1 = .slice (some ⟨ab,ao,none⟩) ln c:=hR 1 v1 rfl
               have r2:v2 = .int .i64 (i:Int):=hR 2 v2 rfl
               have r3:v3 = .pointer (some ⟨ab,ao+i * 4,none⟩):=hR 3 v3 rfl
               have r4:v4 = .pointer (some ⟨ab,ao+i * 4+2,none⟩):=hR 4 v4 rfl
               have r5:v5 = .int .u8 fill:=hR 5 v5 rfl
               have r6:v6 = .slice (some ⟨ab,ao,none⟩) ln c:=hR 6 v6 rfl
               have r7:v7 = .int .i64 (i:Int):=hR 7 v7 rfl
               have r8:v8 = .pointer (some ⟨ab,ao+i * 4,none⟩):=hR 8 v8 rfl
               have r9:v9 = .pointer (some ⟨ab,ao+i * 4+1,none⟩):=hR 9 v9 rfl
               have r10:v10 = .int .i64 nn:=hR 10 v10 rfl
               have r11:v11 = .string (strOfNums r):=hR 11 v11 rfl
               clear hR
               subst r0 r1 r2 r3 r4 r5 r6 r7 r8 r9 r10 r11
               have HI5:=Bx.mk (HI4.out.later hb)
               have hap:=rjappend_any w5 tb h ra rc L HI5.out.rj (by have:=HSM.out;omega) (by have:=HSM.out;omega) (by have:=HSM.out;omega) r (by have:=HR.out.2;omega)
               rw [←HE.out.1,←HE.out.2] at hap
               replace hap:=Bx.mk hap
               have n1:(rn != rn)=false:=by simp
               have n2:(er != er)=false:=by simp
               clear hb HI4 HW4
               simp only [puts,List.take_succ_cons,List.take_zero,List.drop_succ_cons,List.drop_zero,List.map_cons,List.map_nil,List.zip_cons_cons,List.zip_nil_right,List.foldl_cons,List.foldl_nil]
               go_upto_region 19 with (go_at_call 11;refine hap.out.mono ?_;rintro _ w6 ⟨rfl,hp⟩)
               obtain ⟨ra',rc',hI6⟩:=HI5.out.rpost hp
               rw [←HL2.out] at hI6
               have HI6:=Bx.mk hI6
               clear hp hap hI6 HI5
               go_wp2_with fail
               go_meet
               exact ⟨_,_,ra',rc',L2,rfl,rfl,HI6⟩
     · by_cases hk2:kd=2
       · -- Replace
         have k1:(kd == 1)=false:=by simpa using hk1
         have k2:(kd == 2)=true:=by simp [hk2]
         obtain ⟨T,hT⟩ : ∃ T,T=textsB fill sizes:=⟨_,rfl⟩
         obtain ⟨ls,hls⟩ : ∃ ls,ls=sizes.length:=⟨_,rfl⟩
         have HCC:Bx (∀ W',Below w.heap.size w W'→W'.cell? ⟨ab,ao+i * 4,none⟩=some (.int .i64 kd)∧W'.cell? ⟨ab,ao+i * 4+1,none⟩=some (.int .i64 nn)∧W'.cell? ⟨ab,ao+i * 4+2,none⟩=some (.int .u8 fill)∧W'.cell? ⟨ab,ao+i * 4+3,none⟩=some (.slice sa ls sc)):=⟨fun W' hb=>by rw [hls];exact ⟨(HC.out W' hb).1 0 _ rfl,(HC.out W' hb).1 1 _ rfl,(HC.out W' hb).1 2 _ rfl,(HC.out W' hb).1 3 _ rfl⟩⟩
         have HTX:Bx (∀ W',Below w.heap.size w W'→Calls Tryd.prog 13 #[.agg #[.int .i64 kd,.int .i64 nn,.int .u8 fill,.slice sa ls sc]] W' fun e w' => ∃ v,e = .returned v∧Below W'.heap.size W' w'∧MoR W'.heap.size (strs T) v w'):=⟨fun W' hb=>by rw [hT,hls];exact rtexts_any W' ⟨kd,nn,fill,sa,sc,sizes⟩ (HC.out W' hb).2⟩
         have HT:Bx (T.length≤30∧(∀ r∈T,r.length≤8100∧Byts r)∧(strmP T).length≤300000):=⟨by rw [hT,textsB_len];omega,fun r hr=>by rw [hT] at hr;exact textsB_mem hr,by rw [hT];exact textsB_small _ _⟩
         obtain ⟨er,her⟩ : ∃ er,er=jchkV false h (strmP T) T:=⟨_,rfl⟩
         have HE:=Bx.mk her
         clear hk1 hk2 HC hfill hnn hT her hls
         obtain ⟨tl,htl⟩ : ∃ tl,tl=T.length:=⟨_,rfl⟩
         have HTL:=Bx.mk htl
         clear htl
         go_upto_region 22 with fail
         obtain ⟨d0,d1,d2,d3⟩:=HCC.out wr HWr.out
         go_wp2_with fail
         refine (HTX.out wr HWr.out).mono ?_
         rintro _ w3 ⟨v5,rfl,hb,r5⟩
         clear d0 d1 d2 d3
         obtain ⟨va,vc,rfl,hsl⟩:=Ownv.form r5
         rw [strs_length,←HTL.out] at r5 ⊢
         have HI3:=Bx.mk (HI.out.later hb)
         have hap:=HI3.out.je.replace HI3.out.flt (by have:=HI16.out;omega) va vc T hsl (by have:=HT.out;omega) (fun r hr=>by have:=(HT.out.2.1 r hr).1;omega) (by have:=HT.out;omega) (fun r hr=>(HT.out.2.1 r hr).2)
         rw [←HE.out,←HTL.out] at hap
         obtain ⟨L2,hL2⟩ : ∃ L2,L2=(if er=0 then T else L):=⟨_,rfl⟩
         have HL2:=Bx.mk hL2
         rw [←hL2] at hap
         replace hap:=Bx.mk hap
         clear hb HI hL2 r5 hsl
         go_upto_region 23 with (go_at_call 12;refine hap.out.mono ?_;rintro _ w4 ⟨rfl,hp⟩)
         have HI4:=Bx.mk (HI3.out.jop hp)
         have HW4:=Bx.mk (HB1.out.trans (HI4.out.bel.mono HB1.out.size))
         clear hp hap HI3
         obtain ⟨d0,d1,d2,d3⟩:=HCC.out w4 HW4.out
         go_wp2_with fail
         refine (HTX.out w4 HW4.out).mono ?_
         rintro _ w5 ⟨v5,rfl,hb,r5⟩
         clear d0 d1 d2 d3
         obtain ⟨vb,vd,rfl,hsl⟩:=Ownv.form r5
         rw [strs_length,←HTL.out] at r5 ⊢
         have HI5:=Bx.mk (HI4.out.later hb)
         have hap:=rjreplace_any w5 tb h ra rc L HI5.out.rj (by have:=HSM.out;omega) vb vd T hsl (by have:=HT.out;omega) (by have:=HT.out;omega)
         rw [←HE.out,←HTL.out] at hap
         replace hap:=Bx.mk hap
         have n2:(er != er)=false:=by simp
         clear hb HI4 HW4 r5 hsl
         go_upto_region 24 with (go_at_call 14;refine hap.out.mono ?_;rintro _ w6 ⟨rfl,hp⟩)
         obtain ⟨ra',rc',hI6⟩:=HI5.out.rpost hp
         rw [←HL2.out] at hI6
         have HI6:=Bx.mk hI6
         clear hp hap hI6 HI5
         go_wp2_with fail
         go_meet
         exact ⟨_,_,ra',rc',L2,rfl,rfl,HI6⟩
       · -- everything is opened again
         have k1:(kd == 1)=false:=by simpa using hk1
         have k2:(kd == 2)=false:=by simpa using hk2
         clear hk1 hk2 HC hfill hnn
         have hop:=Bx.mk (HI.out.je.open_ HI.out.flt (by have:=HI16.out;omega) HI.out.bel.size)
         go_upto_region 13 with (go_at_call 15;refine hop.out.mono ?_;rintro _ w3 ⟨pq,jq,rfl,hj,hc⟩)
         have HI6:=Bx.mk (HI.out.opn hj hc)
         clear hj hc hop HI
         go_wp2_with fail
         go_meet
         exact ⟨jq,pq,ra,rc,L,rfl,rfl,HI6⟩
    case rest =>
    obtain ⟨jp',pp',ra',rc',L',rfl,rfl,HI2⟩:=hcut
    generalize wc=W0 at *
    replace HI:=HI2
    clear HI2 HC hfill hnn HSM b1 b2
    have HSM:=Bx.mk HI.out.je.small
    have HFIT:=Bx.mk HI.out.je.fits
    obtain ⟨m,hm⟩ : ∃ m,m=L'.length:=⟨_,rfl⟩
    obtain ⟨u,hu⟩ : ∃ u,u=(strmP L').length:=⟨_,rfl⟩
    have HM:=Bx.mk (And.intro hm hu)
    have c1:W0.cell? ⟨tb,1,none⟩=some (.slice ra' m rc'):=by rw [hm];exact HI.out.rj.bk.cell 1 rfl
    have hus:=rused_any ra' rc' L' W0 HI.out.rj.rd (by have:=HSM.out;omega) (by have:=HSM.out;omega)
    rw [←hm,←hu] at hus
    replace hus:=Bx.mk hus
    clear hm hu
    go_upto_region 27 with (go_at_call 16;refine hus.out.mono ?_;rintro _ wq ⟨rfl,hq⟩;have hq2:W0=wq:=hq.symm;subst hq2)
    clear hus c1
    have hrec:=HI.out.je.record kq HKQ.out
    have hcase:(∃ (j:Nat) (r:List Int),kq=(j:Int)∧L'[j]? = some r∧j<m)∨(kq<0∨(m:Int)≤kq):=by
     by_cases h1:kq<0
     · exact .inr (.inl h1)
     · by_cases h2:(m:Int)≤kq
       · exact .inr (.inr h2)
       · exact .inl ⟨kq.toNat,L'[kq.toNat]'(by rw [←HM.out.1];omega),by omega,List.getElem?_eq_getElem _,by omega⟩
    have HUL:Bx (u≤h * 116∧h≤99):=⟨by rw [HM.out.2];exact HFIT.out,HSM.out.2.2.2.1⟩
    obtain ⟨sz,hsz⟩ : ∃ sz,sz=h * 116:=⟨_,rfl⟩
    have HSZ:=Bx.mk hsz
    have e1:IntKind.i64.wrap ((sz:Int) - (u:Int))=((sz - u:Nat):Int):=by have:=HUL.out;rw [IntWalk.i64_in _ (by omega)];omega
    clear hsz
    have hln:=Bx.mk fun W (hb:Below W0.heap.size W0 W)=>(HI.out.je.later hb).len
    have hrs:=Bx.mk fun W (hb:Below W0.heap.size W0 W)=>(HI.out.je.later hb).records
    have hud:=Bx.mk fun W (hb:Below W0.heap.size W0 W)=>(HI.out.je.later hb).used
    have hrm:=Bx.mk fun W (hb:Below W0.heap.size W0 W)=>(HI.out.je.later hb).room
    have hsm:=Bx.mk fun W (hb:Below W0.heap.size W0 W) (va:Option Addr) (vc:Nat) (hs:Slv W va (strs L'))=>rsame_yes va ra' vc rc' L' W hs (HI.out.rj.rd.below hb) (by have:=HSM.out;omega)
    simp only [←HM.out.1,←HM.out.2,←HSZ.out] at hln hud hrm hsm
    have HRJ:=Bx.mk fun W (hb:Below W0.heap.size W0 W)=>(show W.cell? ⟨tb,0,none⟩=some (.int .i64 (sz:Int))∧W.cell? ⟨tb,1,none⟩=some (.slice ra' m rc') from by
     rw [HM.out.1,HSZ.out]
     exact ⟨(HI.out.rj.bk.later hb).cell 0 rfl,(HI.out.rj.bk.later hb).cell 1 rfl⟩)
    have m1:((m:Int) != (m:Int))=false:=by simp
    have m2:((u:Int) != (u:Int))=false:=by simp
    have m3:(((sz - u:Nat):Int) != ((sz - u:Nat):Int))=false:=by simp
    rcases hcase with ⟨j,r,rfl,hr,hjm⟩ | hout
    · rw [recV_in rfl hr] at hrec
      replace hrec:=Bx.mk hrec
      obtain ⟨rb,ro,rfl,hcr⟩:=HI.out.rj.rd j _ (strs_at hr)
      have HCR:=Bx.mk fun W (hb:Below W0.heap.size W0 W)=>cell_later hb hcr
      have g1:decide ((j:Int) ≥ 0)=true:=by simp
      have g1b:decide ((0:Int)≤(j:Int))=true:=by simp
      have g2:decide ((j:Int)<(m:Int))=true:=by simp;omega
      have g2b:decide (j<m)=true:=by simpa using hjm
      have b1:(0:Int)≤(j:Int):=by omega
      have b2:(j:Int)<(m:Int):=by omega
      generalize strOfNums r=S at *
      have s1:(S.toList != S.toList)=false:=by simp
      have s2:(S.toList == S.toList)=true:=by simp
      clear hr hcr hjm
      go_upto_region 28 with (go_at_call 17;refine hrec.out.mono ?_;rintro _ w3 ⟨rfl,hb3⟩)
      have HB3:=Bx.mk hb3
      obtain ⟨d0,d1⟩:=HRJ.out w3 hb3
      have d2:=HCR.out w3 hb3
      clear hb3 hrec
      go_upto_region 29 with fail
      go_cut [217] from 156 to 217 (fun v wx=>v = .bool false∧Bx (Below W0.heap.size W0 wx))
      case first =>
       refine wp_region_relTS (sk:=fun ii=>ii == 58 || ii == 59) 61 (fun ii v w'=>match ii with
        | 0=>v = .pointer (some ⟨jp',0,none⟩)
        | 1=>v = .int .i64 (m:Int)
        | 2=>v = .pointer (some ⟨tb,0,none⟩)
        | 3=>v = .pointer (some ⟨tb,0,none⟩)
        | 4=>v = .pointer (some ⟨tb,1,none⟩)
        | 5=>v = .slice (some ⟨rb,ro,none⟩) m rc'
        | 6=>v = .int .i64 (m:Int)
        | 7=>v = .bool false
        | 8=>v = .bool false
        | 9=>v = .pointer (some ⟨jp',0,none⟩)
        | 10=>RcR m L' v w'
        | 11=>v = .pointer (some ⟨tb,0,none⟩)
        | 12=>v = .pointer (some ⟨tb,0,none⟩)
        | 13=>v = .pointer (some ⟨tb,1,none⟩)
        | 14=>v = .slice (some ⟨rb,ro,none⟩) m rc'
        | 15=>v = .bool true
        | 16=>v = .bool false
        | 17=>v = .bool false
        | 18=>v = .bool false
        | 19=>v = .pointer (some ⟨jp',0,none⟩)
        | 20=>v = .int .i64 (u:Int)
        | 21=>v = .int .i64 (u:Int)
        | 22=>v = .bool false
        | 23=>v = .bool false
        | 24=>v = .bool false
        | 25=>v = .pointer (some ⟨jp',0,none⟩)
        | 26=>v = .int .i64 ((sz - u:Nat):Int)
        | 27=>v = .pointer (some ⟨tb,0,none⟩)
        | 28=>v = .pointer (some ⟨tb,0,none⟩)
        | 29=>v = .pointer (some ⟨tb,0,none⟩)
        | 30=>v = .int .i64 (sz:Int)
        | 31=>v = .int .i64 (u:Int)
        | 32=>v = .int .i64 ((sz - u:Nat):Int)
        | 33=>v = .bool false
        | 34=>v = .bool false
        | 35=>v = .bool false
        | 36=>v = .bool true
        | 37=>v = .bool true
        | 38=>v = .bool false
        | 39=>v = .bool false
        | 40=>v = .bool false
        | 41=>v = .bool true
        | 42=>v = .bool true
        | 43=>v = .string S
        | 44=>v = .pointer (some ⟨tb,0,none⟩)
        | 45=>v = .pointer (some ⟨tb,0,none⟩)
        | 46=>v = .pointer (some ⟨tb,1,none⟩)
        | 47=>v = .slice (some ⟨rb,ro,none⟩) m rc'
        | 48=>v = .int .i64 (j:Int)
        | 49=>v = .pointer (some ⟨rb,ro+j,none⟩)
        | 50=>v = .string S
        | 51=>v = .bool false
        | 52=>v = .bool false
        | 53=>v = .bool false
        | 54=>v = .bool false
        | 55=>v = .bool true
        | 56=>v = .bool false
        | 57=>v = .bool false
        | 58=>v=undef
        | 59=>v=undef
        | _=>v = .bool false) (by kernel_rfl) (by kernel_rfl) 219 (by kernel_rfl) (by rfl) ?_ ?_ ?_ ?_ ?_
       · intro ii o g b hi ho hg v w' hR
         match ii,hi with
         | 0,_=>obtain rfl:=Option.some.inj ho;cases hg
         | 1,_=>obtain rfl:=Option.some.inj ho;cases hg
         | 2,_=>obtain rfl:=Option.some.inj ho;cases hg
         | 3,_=>obtain rfl:=Option.some.inj ho;cases hg
         | 4,_=>obtain rfl:=Option.some.inj ho;cases hg
         | 5,_=>obtain rfl:=Option.some.inj ho;cases hg
         | 6,_=>obtain rfl:=Option.some.inj ho;cases hg
         | 7,_=>obtain rfl:=Option.some.inj ho;cases hg
         | 8,_=>obtain rfl:=Option.some.inj ho;cases hg
         | 9,_=>obtain rfl:=Option.some.inj ho;obtain ⟨rfl,rfl⟩:=Prod.mk.inj (Option.some.inj hg);exact hR
         | 10,_=>obtain rfl:=Option.some.inj ho;obtain ⟨rfl,rfl⟩:=Prod.mk.inj (Option.some.inj hg);exact hR
         | 11,_=>obtain rfl:=Option.some.inj ho;obtain ⟨rfl,rfl⟩:=Prod.mk.inj (Option.some.inj hg);exact hR
         | 12,_=>obtain rfl:=Option.some.inj ho;obtain ⟨rfl,rfl⟩:=Prod.mk.inj (Option.some.inj hg);exact hR
         | 13,_=>obtain rfl:=Option.some.inj ho;obtain ⟨rfl,rfl⟩:=Prod.mk.inj (Option.some.inj hg);exact hR
         | 14,_=>obtain rfl:=Option.some.inj ho;obtain ⟨rfl,rfl⟩:=Prod.mk.inj (Option.some.inj hg);exact hR
         | 15,_=>obtain rfl:=Option.some.inj ho;obtain ⟨rfl,rfl⟩:=Prod.mk.inj (Option.some.inj hg);exact hR
         | 16,_=>obtain rfl:=Option.some.inj ho;obtain ⟨rfl,rfl⟩:=Prod.mk.inj (Option.some.inj hg);exact hR
         | 17,_=>obtain rfl:=Option.some.inj ho;cases hg
         | 18,_=>obtain rfl:=Option.some.inj ho;cases hg
         | 19,_=>obtain rfl:=Option.some.inj ho;obtain ⟨rfl,rfl⟩:=Prod.mk.inj (Option.some.inj hg);exact hR
         | 20,_=>obtain rfl:=Option.some.inj ho;obtain ⟨rfl,rfl⟩:=Prod.mk.inj (Option.some.inj hg);exact hR
         | 21,_=>obtain rfl:=Option.some.inj ho;obtain ⟨rfl,rfl⟩:=Prod.mk.inj (Option.some.inj hg);exact hR
         | 22,_=>obtain rfl:=Option.some.inj ho;obtain ⟨rfl,rfl⟩:=Prod.mk.inj (Option.some.inj hg);exact hR
         | 23,_=>obtain rfl:=Option.some.inj ho;cases hg
         | 24,_=>obtain rfl:=Option.some.inj ho;cases hg
         | 25,_=>obtain rfl:=Option.some.inj ho;obtain ⟨rfl,rfl⟩:=Prod.mk.inj (Option.some.inj hg);exact hR
         | 26,_=>obtain rfl:=Option.some.inj ho;obtain ⟨rfl,rfl⟩:=Prod.mk.inj (Option.some.inj hg);exact hR
         | 27,_=>obtain rfl:=Option.some.inj ho;obtain ⟨rfl,rfl⟩:=Prod.mk.inj (Option.some.inj hg);exact hR
         | 28,_=>obtain rfl:=Option.some.inj ho;obtain ⟨rfl,rfl⟩:=Prod.mk.inj (Option.some.inj hg);exact hR
         | 29,_=>obtain rfl:=Option.some.inj ho;obtain ⟨rfl,rfl⟩:=Prod.mk.inj (Option.some.inj hg);exact hR
         | 30,_=>obtain rfl:=Option.some.inj ho;obtain ⟨rfl,rfl⟩:=Prod.mk.inj (Option.some.inj hg);exact hR
         | 31,_=>obtain rfl:=Option.some.inj ho;obtain ⟨rfl,rfl⟩:=Prod.mk.inj (Option.some.inj hg);exact hR
         | 32,_=>obtain rfl:=Option.some.inj ho;obtain ⟨rfl,rfl⟩:=Prod.mk.inj (Option.some.inj hg);exact hR
         | 33,_=>obtain rfl:=Option.some.inj ho;obtain ⟨rfl,rfl⟩:=Prod.mk.inj (Option.some.inj hg);exact hR
         | 34,_=>obtain rfl:=Option.some.inj ho;cases hg
         | 35,_=>obtain rfl:=Option.some.inj ho;cases hg
         | 36,_=>obtain rfl:=Option.some.inj ho;obtain ⟨rfl,rfl⟩:=Prod.mk.inj (Option.some.inj hg);exact hR
         | 37,_=>obtain rfl:=Option.some.inj ho;obtain ⟨rfl,rfl⟩:=Prod.mk.inj (Option.some.inj hg);exact hR
         | 38,_=>obtain rfl:=Option.some.inj ho;obtain ⟨rfl,rfl⟩:=Prod.mk.inj (Option.some.inj hg);exact hR
         | 39,_=>obtain rfl:=Option.some.inj ho;cases hg
         | 40,_=>obtain rfl:=Option.some.inj ho;cases hg
         | 41,_=>obtain rfl:=Option.some.inj ho;obtain ⟨rfl,rfl⟩:=Prod.mk.inj (Option.some.inj hg);exact hR
         | 42,_=>obtain rfl:=Option.some.inj ho;obtain ⟨rfl,rfl⟩:=Prod.mk.inj (Option.some.inj hg);exact hR
         | 43,_=>obtain rfl:=Option.some.inj ho;obtain ⟨rfl,rfl⟩:=Prod.mk.inj (Option.some.inj hg);exact hR
         | 44,_=>obtain rfl:=Option.some.inj ho;obtain ⟨rfl,rfl⟩:=Prod.mk.inj (Option.some.inj hg);exact hR
         | 45,_=>obtain rfl:=Option.some.inj ho;obtain ⟨rfl,rfl⟩:=Prod.mk.inj (Option.some.inj hg);exact hR
         | 46,_=>obtain rfl:=Option.some.inj ho;obtain ⟨rfl,rfl⟩:=Prod.mk.inj (Option.some.inj hg);exact hR
         | 47,_=>obtain rfl:=Option.some.inj ho;obtain ⟨rfl,rfl⟩:=Prod.mk.inj (Option.some.inj hg);exact hR
         | 48,_=>obtain rfl:=Option.some.inj ho;obtain ⟨rfl,rfl⟩:=Prod.mk.inj (Option.some.inj hg);exact hR
         | 49,_=>obtain rfl:=Option.some.inj ho;obtain ⟨rfl,rfl⟩:=Prod.mk.inj (Option.some.inj hg);exact hR
         | 50,_=>obtain rfl:=Option.some.inj ho;obtain ⟨rfl,rfl⟩:=Prod.mk.inj (Option.some.inj hg);exact hR
         | 51,_=>obtain rfl:=Option.some.inj ho;obtain ⟨rfl,rfl⟩:=Prod.mk.inj (Option.some.inj hg);exact hR
         | 52,_=>obtain rfl:=Option.some.inj ho;obtain ⟨rfl,rfl⟩:=Prod.mk.inj (Option.some.inj hg);exact hR
         | 53,_=>obtain rfl:=Option.some.inj ho;cases hg
         | 54,_=>obtain rfl:=Option.some.inj ho;cases hg
         | 55,_=>obtain rfl:=Option.some.inj ho;obtain ⟨rfl,rfl⟩:=Prod.mk.inj (Option.some.inj hg);exact hR
         | 56,_=>obtain rfl:=Option.some.inj ho;obtain ⟨rfl,rfl⟩:=Prod.mk.inj (Option.some.inj hg);exact hR
         | 57,_=>obtain rfl:=Option.some.inj ho;obtain ⟨rfl,rfl⟩:=Prod.mk.inj (Option.some.inj hg);exact hR
         | 58,_=>obtain rfl:=Option.some.inj ho;obtain ⟨rfl,rfl⟩:=Prod.mk.inj (Option.some.inj hg);exact hR
         | 59,_=>obtain rfl:=Option.some.inj ho;obtain ⟨rfl,rfl⟩:=Prod.mk.inj (Option.some.inj hg);exact hR
         | 60,_=>obtain rfl:=Option.some.inj ho;obtain ⟨rfl,rfl⟩:=Prod.mk.inj (Option.some.inj hg);exact hR
         | q+61,hi=>exact absurd hi (by omega)
       · intro ii o hi ho hs
         match ii,hi with
         | 0,_=>exact absurd hs (by decide)
         | 1,_=>exact absurd hs (by decide)
         | 2,_=>exact absurd hs (by decide)
         | 3,_=>exact absurd hs (by decide)
         | 4,_=>exact absurd hs (by decide)
         | 5,_=>exact absurd hs (by decide)
         | 6,_=>exact absurd hs (by decide)
         | 7,_=>exact absurd hs (by decide)
         | 8,_=>exact absurd hs (by decide)
         | 9,_=>exact absurd hs (by decide)
         | 10,_=>exact absurd hs (by decide)
         | 11,_=>exact absurd hs (by decide)
         | 12,_=>exact absurd hs (by decide)
         | 13,_=>exact absurd hs (by decide)
         | 14,_=>exact absurd hs (by decide)
         | 15,_=>exact absurd hs (by decide)
         | 16,_=>exact absurd hs (by decide)
         | 17,_=>exact absurd hs (by decide)
         | 18,_=>exact absurd hs (by decide)
         | 19,_=>exact absurd hs (by decide)
         | 20,_=>exact absurd hs (by decide)
         | 21,_=>exact absurd hs (by decide)
         | 22,_=>exact absurd hs (by decide)
         | 23,_=>exact absurd hs (by decide)
         | 24,_=>exact absurd hs (by decide)
         | 25,_=>exact absurd hs (by decide)
         | 26,_=>exact absurd hs (by decide)
         | 27,_=>exact absurd hs (by decide)
         | 28,_=>exact absurd hs (by decide)
         | 29,_=>exact absurd hs (by decide)
         | 30,_=>exact absurd hs (by decide)
         | 31,_=>exact absurd hs (by decide)
         | 32,_=>exact absurd hs (by decide)
         | 33,_=>exact absurd hs (by decide)
         | 34,_=>exact absurd hs (by decide)
         | 35,_=>exact absurd hs (by decide)
         | 36,_=>exact absurd hs (by decide)
         | 37,_=>exact absurd hs (by decide)
         | 38,_=>exact absurd hs (by decide)
         | 39,_=>exact absurd hs (by decide)
         | 40,_=>exact absurd hs (by decide)
         | 41,_=>exact absurd hs (by decide)
         | 42,_=>exact absurd hs (by decide)
         | 43,_=>exact absurd hs (by decide)
         | 44,_=>exact absurd hs (by decide)
         | 45,_=>exact absurd hs (by decide)
         | 46,_=>exact absurd hs (by decide)
         | 47,_=>exact absurd hs (by decide)
         | 48,_=>exact absurd hs (by decide)
         | 49,_=>exact absurd hs (by decide)
         | 50,_=>exact absurd hs (by decide)
         | 51,_=>exact absurd hs (by decide)
         | 52,_=>exact absurd hs (by decide)
         | 53,_=>exact absurd hs (by decide)
         | 54,_=>exact absurd hs (by decide)
         | 55,_=>exact absurd hs (by decide)
         | 56,_=>exact absurd hs (by decide)
         | 57,_=>exact absurd hs (by decide)
         | 58,_=>obtain rfl:=Option.some.inj ho;exact ⟨⟨_,rfl⟩,fun _=>rfl⟩
         | 59,_=>obtain rfl:=Option.some.inj ho;exact ⟨⟨_,rfl⟩,fun _=>rfl⟩
         | 60,_=>exact absurd hs (by decide)
         | q+61,hi=>exact absurd hi (by omega)
       · intro ii hi v u1 u2 hb h
         match ii,hi with
         | 0,_=>exact h
         | 1,_=>exact h
         | 2,_=>exact h
         | 3,_=>exact h
         | 4,_=>exact h
         | 5,_=>exact h
         | 6,_=>exact h
         | 7,_=>exact h
         | 8,_=>exact h
         | 9,_=>exact h
         | 10,_=>exact h.later hb
         | 11,_=>exact h
         | 12,_=>exact h
         | 13,_=>exact h
         | 14,_=>exact h
         | 15,_=>exact h
         | 16,_=>exact h
         | 17,_=>exact h
         | 18,_=>exact h
         | 19,_=>exact h
         | 20,_=>exact h
         | 21,_=>exact h
         | 22,_=>exact h
         | 23,_=>exact h
         | 24,_=>exact h
         | 25,_=>exact h
         | 26,_=>exact h
         | 27,_=>exact h
         | 28,_=>exact h
         | 29,_=>exact h
         | 30,_=>exact h
         | 31,_=>exact h
         | 32,_=>exact h
         | 33,_=>exact h
         | 34,_=>exact h
         | 35,_=>exact h
         | 36,_=>exact h
         | 37,_=>exact h
         | 38,_=>exact h
         | 39,_=>exact h
         | 40,_=>exact h
         | 41,_=>exact h
         | 42,_=>exact h
         | 43,_=>exact h
         | 44,_=>exact h
         | 45,_=>exact h
         | 46,_=>exact h
         | 47,_=>exact h
         | 48,_=>exact h
         | 49,_=>exact h
         | 50,_=>exact h
         | 51,_=>exact h
         | 52,_=>exact h
         | 53,_=>exact h
         | 54,_=>exact h
         | 55,_=>exact h
         | 56,_=>exact h
         | 57,_=>exact h
         | 58,_=>exact h
         | 59,_=>exact h
         | 60,_=>exact h
         | q+61,hi=>exact absurd hi (by omega)
       · intro ii o hi ho hs ρ wx hb hc1 hc2 hc3 hk
         match ii,hi with
         | 0, _ =>
           obtain rfl:=Option.some.inj ho
           clear hs
           have g0:ρ (.tmp 9) = .pointer (some ⟨jp',0,none⟩):=hk 9 (by simp [Op.operands,Call.operands])
           clear hk hb HB3 hln hrs hud hrm hsm HRJ HI HCR
           go_simp
           exact Below.refl _ _
         | 1, _ =>
           obtain rfl:=Option.some.inj ho
           clear hs
           have g0:ρ (.tmp 156) = .pointer (some ⟨jp',0,none⟩):=hk 156 (by simp [Op.operands,Call.operands])
           have h4:=hln.out wx (HB3.out.trans (hb.mono HB3.out.size))
           have H4:=Bx.mk h4
           clear h4
           clear hk hb HB3 hln hrs hud hrm hsm HRJ HI HCR
           go_simp
           all_goals exact H4.out
         | 2, _ =>
           obtain rfl:=Option.some.inj ho
           clear hs
           have g0:ρ (.tmp 11) = .pointer (some ⟨tb,0,none⟩):=hk 11 (by simp [Op.operands,Call.operands])
           clear hk hb HB3 hln hrs hud hrm hsm HRJ HI HCR
           go_simp
           exact Below.refl _ _
         | 3, _ =>
           obtain rfl:=Option.some.inj ho
           clear hs
           have g0:ρ (.tmp 158) = .pointer (some ⟨tb,0,none⟩):=hk 158 (by simp [Op.operands,Call.operands])
           clear hk hb HB3 hln hrs hud hrm hsm HRJ HI HCR
           go_simp
           exact Below.refl _ _
         | 4, _ =>
           obtain rfl:=Option.some.inj ho
           clear hs
           have g0:ρ (.tmp 159) = .pointer (some ⟨tb,0,none⟩):=hk 159 (by simp [Op.operands,Call.operands])
           clear hk hb HB3 hln hrs hud hrm hsm HRJ HI HCR
           go_simp
           exact Below.refl _ _
         | 5, _ =>
           obtain rfl:=Option.some.inj ho
           clear hs
           have g0:ρ (.tmp 160) = .pointer (some ⟨tb,1,none⟩):=hk 160 (by simp [Op.operands,Call.operands])
           obtain ⟨d0,d1⟩:=HRJ.out wx (HB3.out.trans (hb.mono HB3.out.size))
           clear hk hb HB3 hln hrs hud hrm hsm HRJ HI HCR
           go_simp
           exact Below.refl _ _
         | 6, _ =>
           obtain rfl:=Option.some.inj ho
           clear hs
           have g0:ρ (.tmp 161) = .slice (some ⟨rb,ro,none⟩) m rc':=hk 161 (by simp [Op.operands,Call.operands])
           clear hk hb HB3 hln hrs hud hrm hsm HRJ HI HCR
           go_simp
           exact Below.refl _ _
         | 7, _ =>
           obtain rfl:=Option.some.inj ho
           clear hs
           have g0:ρ (.tmp 157) = .int .i64 (m:Int):=hk 157 (by simp [Op.operands,Call.operands])
           have g1:ρ (.tmp 162) = .int .i64 (m:Int):=hk 162 (by simp [Op.operands,Call.operands])
           clear hk hb HB3 hln hrs hud hrm hsm HRJ HI HCR
           go_simp
           exact Below.refl _ _
         | 8, _ =>
           obtain rfl:=Option.some.inj ho
           clear hs
           have g0:ρ (.tmp 163) = .bool false:=hk 163 (by simp [Op.operands,Call.operands])
           clear hk hb HB3 hln hrs hud hrm hsm HRJ HI HCR
           go_simp
           exact Below.refl _ _
         | 9, _ =>
           obtain rfl:=Option.some.inj ho
           clear hs
           have g0:ρ (.tmp 9) = .pointer (some ⟨jp',0,none⟩):=hk 9 (by simp [Op.operands,Call.operands])
           clear hk hb HB3 hln hrs hud hrm hsm HRJ HI HCR
           go_simp
           exact Below.refl _ _
         | 10, _ =>
           obtain rfl:=Option.some.inj ho
           clear hs
           have g0:ρ (.tmp 165) = .pointer (some ⟨jp',0,none⟩):=hk 165 (by simp [Op.operands,Call.operands])
           have h4:=(hrs.out wx (HB3.out.trans (hb.mono HB3.out.size))).mono fun e w' h=>(show ∃ v,e = .returned v∧Below wx.heap.size wx w'∧RcR m L' v w' from by obtain ⟨v,h1,h2,h3⟩:=h;exact ⟨v,h1,h2,RcR.of HM.out.1 h3⟩)
           have H4:=Bx.mk h4
           clear h4
           clear hk hb HB3 hln hrs hud hrm hsm HRJ HI HCR
           go_simp
           all_goals exact H4.out
         | 11, _ =>
           obtain rfl:=Option.some.inj ho
           clear hs
           have g0:ρ (.tmp 11) = .pointer (some ⟨tb,0,none⟩):=hk 11 (by simp [Op.operands,Call.operands])
           clear hk hb HB3 hln hrs hud hrm hsm HRJ HI HCR
           go_simp
           exact Below.refl _ _
         | 12, _ =>
           obtain rfl:=Option.some.inj ho
           clear hs
           have g0:ρ (.tmp 167) = .pointer (some ⟨tb,0,none⟩):=hk 167 (by simp [Op.operands,Call.operands])
           clear hk hb HB3 hln hrs hud hrm hsm HRJ HI HCR
           go_simp
           exact Below.refl _ _
         | 13, _ =>
           obtain rfl:=Option.some.inj ho
           clear hs
           have g0:ρ (.tmp 168) = .pointer (some ⟨tb,0,none⟩):=hk 168 (by simp [Op.operands,Call.operands])
           clear hk hb HB3 hln hrs hud hrm hsm HRJ HI HCR
           go_simp
           exact Below.refl _ _
         | 14, _ =>
           obtain rfl:=Option.some.inj ho
           clear hs
           have g0:ρ (.tmp 169) = .pointer (some ⟨tb,1,none⟩):=hk 169 (by simp [Op.operands,Call.operands])
           obtain ⟨d0,d1⟩:=HRJ.out wx (HB3.out.trans (hb.mono HB3.out.size))
           clear hk hb HB3 hln hrs hud hrm hsm HRJ HI HCR
           go_simp
           exact Below.refl _ _
         | 15, _ =>
           obtain rfl:=Option.some.inj ho
           clear hs
           have g0:ρ (.tmp 170) = .slice (some ⟨rb,ro,none⟩) m rc':=hk 170 (by simp [Op.operands,Call.operands])
           have gp:RcR m L' (ρ (.tmp 166)) wx:=hk 166 (by simp [Op.operands,Call.operands])
           obtain ⟨va,vc,g1,hsv⟩:=gp
           have h4:=hsm.out wx (HB3.out.trans (hb.mono HB3.out.size)) va vc hsv
           have H4:=Bx.mk h4
           clear h4 hsv
           clear hk hb HB3 hln hrs hud hrm hsm HRJ HI HCR
           go_simp
           all_goals exact H4.out
         | 16, _ =>
           obtain rfl:=Option.some.inj ho
           clear hs
           have g0:ρ (.tmp 171) = .bool true:=hk 171 (by simp [Op.operands,Call.operands])
           clear hk hb HB3 hln hrs hud hrm hsm HRJ HI HCR
           go_simp
           exact Below.refl _ _
         | 17, _ =>
           obtain rfl:=Option.some.inj ho
           clear hs
           have g0:ρ (.tmp 164) = .bool false:=hk 164 (by simp [Op.operands,Call.operands])
           have g1:ρ (.tmp 172) = .bool false:=hk 172 (by simp [Op.operands,Call.operands])
           clear hk hb HB3 hln hrs hud hrm hsm HRJ HI HCR
           go_simp
           exact Below.refl _ _
         | 18, _ =>
           obtain rfl:=Option.some.inj ho
           clear hs
           have g0:ρ (.tmp 173) = .bool false:=hk 173 (by simp [Op.operands,Call.operands])
           clear hk hb HB3 hln hrs hud hrm hsm HRJ HI HCR
           go_simp
           exact Below.refl _ _
         | 19, _ =>
           obtain rfl:=Option.some.inj ho
           clear hs
           have g0:ρ (.tmp 9) = .pointer (some ⟨jp',0,none⟩):=hk 9 (by simp [Op.operands,Call.operands])
           clear hk hb HB3 hln hrs hud hrm hsm HRJ HI HCR
           go_simp
           exact Below.refl _ _
         | 20, _ =>
           obtain rfl:=Option.some.inj ho
           clear hs
           have g0:ρ (.tmp 175) = .pointer (some ⟨jp',0,none⟩):=hk 175 (by simp [Op.operands,Call.operands])
           have h4:=hud.out wx (HB3.out.trans (hb.mono HB3.out.size))
           have H4:=Bx.mk h4
           clear h4
           clear hk hb HB3 hln hrs hud hrm hsm HRJ HI HCR
           go_simp
           all_goals exact H4.out
         | 21, _ =>
           obtain rfl:=Option.some.inj ho
           clear hs
           have g0:ρ (.tmp 21) = .int .i64 (u:Int):=hk 21 (by simp [Op.operands,Call.operands])
           clear hk hb HB3 hln hrs hud hrm hsm HRJ HI HCR
           go_simp
           exact Below.refl _ _
         | 22, _ =>
           obtain rfl:=Option.some.inj ho
           clear hs
           have g0:ρ (.tmp 176) = .int .i64 (u:Int):=hk 176 (by simp [Op.operands,Call.operands])
           have g1:ρ (.tmp 177) = .int .i64 (u:Int):=hk 177 (by simp [Op.operands,Call.operands])
           clear hk hb HB3 hln hrs hud hrm hsm HRJ HI HCR
           go_simp
           exact Below.refl _ _
         | 23, _ =>
           obtain rfl:=Option.some.inj ho
           clear hs
           have g0:ρ (.tmp 174) = .bool false:=hk 174 (by simp [Op.operands,Call.operands])
           have g1:ρ (.tmp 178) = .bool false:=hk 178 (by simp [Op.operands,Call.operands])
           clear hk hb HB3 hln hrs hud hrm hsm HRJ HI HCR
           go_simp
           exact Below.refl _ _
         | 24, _ =>
           obtain rfl:=Option.some.inj ho
           clear hs
           have g0:ρ (.tmp 179) = .bool false:=hk 179 (by simp [Op.operands,Call.operands])
           clear hk hb HB3 hln hrs hud hrm hsm HRJ HI HCR
           go_simp
           exact Below.refl _ _
         | 25, _ =>
           obtain rfl:=Option.some.inj ho
           clear hs
           have g0:ρ (.tmp 9) = .pointer (some ⟨jp',0,none⟩):=hk 9 (by simp [Op.operands,Call.operands])
           clear hk hb HB3 hln hrs hud hrm hsm HRJ HI HCR
           go_simp
           exact Below.refl _ _
         | 26, _ =>
           obtain rfl:=Option.some.inj ho
           clear hs
           have g0:ρ (.tmp 181) = .pointer (some ⟨jp',0,none⟩):=hk 181 (by simp [Op.operands,Call.operands])
           have h4:=hrm.out wx (HB3.out.trans (hb.mono HB3.out.size))
           have H4:=Bx.mk h4
           clear h4
           clear hk hb HB3 hln hrs hud hrm hsm HRJ HI HCR
           go_simp
           all_goals exact H4.out
         | 27, _ =>
           obtain rfl:=Option.some.inj ho
           clear hs
           have g0:ρ (.tmp 11) = .pointer (some ⟨tb,0,none⟩):=hk 11 (by simp [Op.operands,Call.operands])
           clear hk hb HB3 hln hrs hud hrm hsm HRJ HI HCR
           go_simp
           exact Below.refl _ _
         | 28, _ =>
           obtain rfl:=Option.some.inj ho
           clear hs
           have g0:ρ (.tmp 183) = .pointer (some ⟨tb,0,none⟩):=hk 183 (by simp [Op.operands,Call.operands])
           clear hk hb HB3 hln hrs hud hrm hsm HRJ HI HCR
           go_simp
           exact Below.refl _ _
         | 29, _ =>
           obtain rfl:=Option.some.inj ho
           clear hs
           have g0:ρ (.tmp 184) = .pointer (some ⟨tb,0,none⟩):=hk 184 (by simp [Op.operands,Call.operands])
           clear hk hb HB3 hln hrs hud hrm hsm HRJ HI HCR
           go_simp
           exact Below.refl _ _
         | 30, _ =>
           obtain rfl:=Option.some.inj ho
           clear hs
           have g0:ρ (.tmp 185) = .pointer (some ⟨tb,0,none⟩):=hk 185 (by simp [Op.operands,Call.operands])
           obtain ⟨d0,d1⟩:=HRJ.out wx (HB3.out.trans (hb.mono HB3.out.size))
           clear hk hb HB3 hln hrs hud hrm hsm HRJ HI HCR
           go_simp
           exact Below.refl _ _
         | 31, _ =>
           obtain rfl:=Option.some.inj ho
           clear hs
           have g0:ρ (.tmp 21) = .int .i64 (u:Int):=hk 21 (by simp [Op.operands,Call.operands])
           clear hk hb HB3 hln hrs hud hrm hsm HRJ HI HCR
           go_simp
           exact Below.refl _ _
         | 32, _ =>
           obtain rfl:=Option.some.inj ho
           clear hs
           have g0:ρ (.tmp 186) = .int .i64 (sz:Int):=hk 186 (by simp [Op.operands,Call.operands])
           have g1:ρ (.tmp 187) = .int .i64 (u:Int):=hk 187 (by simp [Op.operands,Call.operands])
           clear hk hb HB3 hln hrs hud hrm hsm HRJ HI HCR
           go_simp
           exact Below.refl _ _
         | 33, _ =>
           obtain rfl:=Option.some.inj ho
           clear hs
           have g0:ρ (.tmp 182) = .int .i64 ((sz - u:Nat):Int):=hk 182 (by simp [Op.operands,Call.operands])
           have g1:ρ (.tmp 188) = .int .i64 ((sz - u:Nat):Int):=hk 188 (by simp [Op.operands,Call.operands])
           clear hk hb HB3 hln hrs hud hrm hsm HRJ HI HCR
           go_simp
           exact Below.refl _ _
         | 34, _ =>
           obtain rfl:=Option.some.inj ho
           clear hs
           have g0:ρ (.tmp 180) = .bool false:=hk 180 (by simp [Op.operands,Call.operands])
           have g1:ρ (.tmp 189) = .bool false:=hk 189 (by simp [Op.operands,Call.operands])
           clear hk hb HB3 hln hrs hud hrm hsm HRJ HI HCR
           go_simp
           exact Below.refl _ _
         | 35, _ =>
           obtain rfl:=Option.some.inj ho
           clear hs
           have g0:ρ (.tmp 190) = .bool false:=hk 190 (by simp [Op.operands,Call.operands])
           clear hk hb HB3 hln hrs hud hrm hsm HRJ HI HCR
           go_simp
           exact Below.refl _ _
         | 36, _ =>
           obtain rfl:=Option.some.inj ho
           clear hs
           have g0:ρ (.tmp 23) = .bool true:=hk 23 (by simp [Op.operands,Call.operands])
           clear hk hb HB3 hln hrs hud hrm hsm HRJ HI HCR
           go_simp
           exact Below.refl _ _
         | 37, _ =>
           obtain rfl:=Option.some.inj ho
           clear hs
           have g0:ρ (.tmp 24) = .bool true:=hk 24 (by simp [Op.operands,Call.operands])
           clear hk hb HB3 hln hrs hud hrm hsm HRJ HI HCR
           go_simp
           exact Below.refl _ _
         | 38, _ =>
           obtain rfl:=Option.some.inj ho
           clear hs
           have g0:ρ (.tmp 192) = .bool true:=hk 192 (by simp [Op.operands,Call.operands])
           have g1:ρ (.tmp 193) = .bool true:=hk 193 (by simp [Op.operands,Call.operands])
           clear hk hb HB3 hln hrs hud hrm hsm HRJ HI HCR
           go_simp
           exact Below.refl _ _
         | 39, _ =>
           obtain rfl:=Option.some.inj ho
           clear hs
           have g0:ρ (.tmp 191) = .bool false:=hk 191 (by simp [Op.operands,Call.operands])
           have g1:ρ (.tmp 194) = .bool false:=hk 194 (by simp [Op.operands,Call.operands])
           clear hk hb HB3 hln hrs hud hrm hsm HRJ HI HCR
           go_simp
           exact Below.refl _ _
         | 40, _ =>
           obtain rfl:=Option.some.inj ho
           clear hs
           have g0:ρ (.tmp 195) = .bool false:=hk 195 (by simp [Op.operands,Call.operands])
           clear hk hb HB3 hln hrs hud hrm hsm HRJ HI HCR
           go_simp
           exact Below.refl _ _
         | 41, _ =>
           obtain rfl:=Option.some.inj ho
           clear hs
           have g0:ρ (.tmp 24) = .bool true:=hk 24 (by simp [Op.operands,Call.operands])
           clear hk hb HB3 hln hrs hud hrm hsm HRJ HI HCR
           go_simp
           exact Below.refl _ _
         | 42, _ =>
           obtain rfl:=Option.some.inj ho
           clear hs
           have g0:ρ (.tmp 197) = .bool true:=hk 197 (by simp [Op.operands,Call.operands])
           clear hk hb HB3 hln hrs hud hrm hsm HRJ HI HCR
           go_simp
           exact Below.refl _ _
         | 43, _ =>
           obtain rfl:=Option.some.inj ho
           clear hs
           have g0:ρ (.tmp 22) = .string S:=hk 22 (by simp [Op.operands,Call.operands])
           clear hk hb HB3 hln hrs hud hrm hsm HRJ HI HCR
           go_simp
           exact Below.refl _ _
         | 44, _ =>
           obtain rfl:=Option.some.inj ho
           clear hs
           have g0:ρ (.tmp 11) = .pointer (some ⟨tb,0,none⟩):=hk 11 (by simp [Op.operands,Call.operands])
           clear hk hb HB3 hln hrs hud hrm hsm HRJ HI HCR
           go_simp
           exact Below.refl _ _
         | 45, _ =>
           obtain rfl:=Option.some.inj ho
           clear hs
           have g0:ρ (.tmp 200) = .pointer (some ⟨tb,0,none⟩):=hk 200 (by simp [Op.operands,Call.operands])
           clear hk hb HB3 hln hrs hud hrm hsm HRJ HI HCR
           go_simp
           exact Below.refl _ _
         | 46, _ =>
           obtain rfl:=Option.some.inj ho
           clear hs
           have g0:ρ (.tmp 201) = .pointer (some ⟨tb,0,none⟩):=hk 201 (by simp [Op.operands,Call.operands])
           clear hk hb HB3 hln hrs hud hrm hsm HRJ HI HCR
           go_simp
           exact Below.refl _ _
         | 47, _ =>
           obtain rfl:=Option.some.inj ho
           clear hs
           have g0:ρ (.tmp 202) = .pointer (some ⟨tb,1,none⟩):=hk 202 (by simp [Op.operands,Call.operands])
           obtain ⟨d0,d1⟩:=HRJ.out wx (HB3.out.trans (hb.mono HB3.out.size))
           clear hk hb HB3 hln hrs hud hrm hsm HRJ HI HCR
           go_simp
           exact Below.refl _ _
         | 48, _ =>
           obtain rfl:=Option.some.inj ho
           clear hs
           have g0:ρ (.tmp 2) = .int .i64 (j:Int):=hk 2 (by simp [Op.operands,Call.operands])
           clear hk hb HB3 hln hrs hud hrm hsm HRJ HI HCR
           go_simp
           exact Below.refl _ _
         | 49, _ =>
           obtain rfl:=Option.some.inj ho
           clear hs
           have g0:ρ (.tmp 203) = .slice (some ⟨rb,ro,none⟩) m rc':=hk 203 (by simp [Op.operands,Call.operands])
           have g1:ρ (.tmp 204) = .int .i64 (j:Int):=hk 204 (by simp [Op.operands,Call.operands])
           clear hk hb HB3 hln hrs hud hrm hsm HRJ HI HCR
           go_simp
           exact Below.refl _ _
         | 50, _ =>
           obtain rfl:=Option.some.inj ho
           clear hs
           have g0:ρ (.tmp 205) = .pointer (some ⟨rb,ro+j,none⟩):=hk 205 (by simp [Op.operands,Call.operands])
           have zz:=HCR.out wx (HB3.out.trans (hb.mono HB3.out.size))
           clear hk hb HB3 hln hrs hud hrm hsm HRJ HI HCR
           go_simp
           exact Below.refl _ _
         | 51, _ =>
           obtain rfl:=Option.some.inj ho
           clear hs
           have g0:ρ (.tmp 199) = .string S:=hk 199 (by simp [Op.operands,Call.operands])
           have g1:ρ (.tmp 206) = .string S:=hk 206 (by simp [Op.operands,Call.operands])
           clear hk hb HB3 hln hrs hud hrm hsm HRJ HI HCR
           go_simp
           exact Below.refl _ _
         | 52, _ =>
           obtain rfl:=Option.some.inj ho
           clear hs
           have g0:ρ (.tmp 198) = .bool true:=hk 198 (by simp [Op.operands,Call.operands])
           have g1:ρ (.tmp 207) = .bool false:=hk 207 (by simp [Op.operands,Call.operands])
           clear hk hb HB3 hln hrs hud hrm hsm HRJ HI HCR
           go_simp
           exact Below.refl _ _
         | 53, _ =>
           obtain rfl:=Option.some.inj ho
           clear hs
           have g0:ρ (.tmp 196) = .bool false:=hk 196 (by simp [Op.operands,Call.operands])
           have g1:ρ (.tmp 208) = .bool false:=hk 208 (by simp [Op.operands,Call.operands])
           clear hk hb HB3 hln hrs hud hrm hsm HRJ HI HCR
           go_simp
           exact Below.refl _ _
         | 54, _ =>
           obtain rfl:=Option.some.inj ho
           clear hs
           have g0:ρ (.tmp 209) = .bool false:=hk 209 (by simp [Op.operands,Call.operands])
           clear hk hb HB3 hln hrs hud hrm hsm HRJ HI HCR
           go_simp
           exact Below.refl _ _
         | 55, _ =>
           obtain rfl:=Option.some.inj ho
           clear hs
           have g0:ρ (.tmp 24) = .bool true:=hk 24 (by simp [Op.operands,Call.operands])
           clear hk hb HB3 hln hrs hud hrm hsm HRJ HI HCR
           go_simp
           exact Below.refl _ _
         | 56, _ =>
           obtain rfl:=Option.some.inj ho
           clear hs
           have g0:ρ (.tmp 211) = .bool true:=hk 211 (by simp [Op.operands,Call.operands])
           clear hk hb HB3 hln hrs hud hrm hsm HRJ HI HCR
           go_simp
           exact Below.refl _ _
         | 57, _ =>
           obtain rfl:=Option.some.inj ho
           clear hs
           have g0:ρ (.tmp 212) = .bool false:=hk 212 (by simp [Op.operands,Call.operands])
           clear hk hb HB3 hln hrs hud hrm hsm HRJ HI HCR
           go_simp
           exact Below.refl _ _
         | 58,_=>exact absurd hs (by decide)
         | 59,_=>exact absurd hs (by decide)
         | 60, _ =>
           obtain rfl:=Option.some.inj ho
           clear hs
           have g0:ρ (.tmp 213) = .bool false:=hk 213 (by simp [Op.operands,Call.operands])
           have g1:ρ (.tmp 215)=undef:=hk 215 (by simp [Op.operands,Call.operands])
           clear hk hb HB3 hln hrs hud hrm hsm HRJ HI HCR
           go_simp
           exact Below.refl _ _
         | q+61,hi=>exact absurd hi (by omega)
       · intro vs w9 hlen hb hR
         match vs,hlen with
         | x0 :: x1 :: x2 :: x3 :: x4 :: x5 :: x6 :: x7 :: x8 :: x9 :: x10 :: x11 :: x12 :: x13 :: x14 :: x15 :: x16 :: x17 :: x18 :: x19 :: x20 :: x21 :: x22 :: x23 :: x24 :: x25 :: x26 :: x27 :: x28 :: x29 :: x30 :: x31 :: x32 :: x33 :: x34 :: x35 :: x36 :: x37 :: x38 :: x39 :: x40 :: x41 :: x42 :: x43 :: x44 :: x45 :: x46 :: x47 :: x48 :: x49 :: x50 :: x51 :: x52 :: x53 :: x54 :: x55 :: x56 :: x57 :: x58 :: x59 :: x60 :: [], _ =>
           have r0:x0 = .pointer (some ⟨jp',0,none⟩):=hR 0 x0 rfl
           have r1:x1 = .int .i64 (m:Int):=hR 1 x1 rfl
           have r2:x2 = .pointer (some ⟨tb,0,none⟩):=hR 2 x2 rfl
           have r3:x3 = .pointer (some ⟨tb,0,none⟩):=hR 3 x3 rfl
           have r4:x4 = .pointer (some ⟨tb,1,none⟩):=hR 4 x4 rfl
           have r5:x5 = .slice (some ⟨rb,ro,none⟩) m rc':=hR 5 x5 rfl
           have r6:x6 = .int .i64 (m:Int):=hR 6 x6 rfl
           have r7:x7 = .bool false:=hR 7 x7 rfl
           have r8:x8 = .bool false:=hR 8 x8 rfl
           have r9:x9 = .pointer (some ⟨jp',0,none⟩):=hR 9 x9 rfl
           have r11:x11 = .pointer (some ⟨tb,0,none⟩):=hR 11 x11 rfl
           have r12:x12 = .pointer (some ⟨tb,0,none⟩):=hR 12 x12 rfl
           have r13:x13 = .pointer (some ⟨tb,1,none⟩):=hR 13 x13 rfl
           have r14:x14 = .slice (some ⟨rb,ro,none⟩) m rc':=hR 14 x14 rfl
           have r15:x15 = .bool true:=hR 15 x15 rfl
           have r16:x16 = .bool false:=hR 16 x16 rfl
           have r17:x17 = .bool false:=hR 17 x17 rfl
           have r18:x18 = .bool false:=hR 18 x18 rfl
           have r19:x19 = .pointer (some ⟨jp',0,none⟩):=hR 19 x19 rfl
           have r20:x20 = .int .i64 (u:Int):=hR 20 x20 rfl
           have r21:x21 = .int .i64 (u:Int):=hR 21 x21 rfl
           have r22:x22 = .bool false:=hR 22 x22 rfl
           have r23:x23 = .bool false:=hR 23 x23 rfl
           have r24:x24 = .bool false:=hR 24 x24 rfl
           have r25:x25 = .pointer (some ⟨jp',0,none⟩):=hR 25 x25 rfl
           have r26:x26 = .int .i64 ((sz - u:Nat):Int):=hR 26 x26 rfl
           have r27:x27 = .pointer (some ⟨tb,0,none⟩):=hR 27 x27 rfl
           have r28:x28 = .pointer (some ⟨tb,0,none⟩):=hR 28 x28 rfl
           have r29:x29 = .pointer (some ⟨tb,0,none⟩):=hR 29 x29 rfl
           have r30:x30 = .int .i64 (sz:Int):=hR 30 x30 rfl
           have r31:x31 = .int .i64 (u:Int):=hR 31 x31 rfl
           have r32:x32 = .int .i64 ((sz - u:Nat):Int):=hR 32 x32 rfl
           have r33:x33 = .bool false:=hR 33 x33 rfl
           have r34:x34 = .bool false:=hR 34 x34 rfl
           have r35:x35 = .bool false:=hR 35 x35 rfl
           have r36:x36 = .bool true:=hR 36 x36 rfl
           have r37:x37 = .bool true:=hR 37 x37 rfl
           have r38:x38 = .bool false:=hR 38 x38 rfl
           have r39:x39 = .bool false:=hR 39 x39 rfl
           have r40:x40 = .bool false:=hR 40 x40 rfl
           have r41:x41 = .bool true:=hR 41 x41 rfl
           have r42:x42 = .bool true:=hR 42 x42 rfl
           have r43:x43 = .string S:=hR 43 x43 rfl
           have r44:x44 = .pointer (some ⟨tb,0,none⟩):=hR 44 x44 rfl
           have r45:x45 = .pointer (some ⟨tb,0,none⟩):=hR 45 x45 rfl
           have r46:x46 = .pointer (some ⟨tb,1,none⟩):=hR 46 x46 rfl
           have r47:x47 = .slice (some ⟨rb,ro,none⟩) m rc':=hR 47 x47 rfl
           have r48:x48 = .int .i64 (j:Int):=hR 48 x48 rfl
           have r49:x49 = .pointer (some ⟨rb,ro+j,none⟩):=hR 49 x49 rfl
           have r50:x50 = .string S:=hR 50 x50 rfl
           have r51:x51 = .bool false:=hR 51 x51 rfl
           have r52:x52 = .bool false:=hR 52 x52 rfl
           have r53:x53 = .bool false:=hR 53 x53 rfl
           have r54:x54 = .bool false:=hR 54 x54 rfl
           have r55:x55 = .bool true:=hR 55 x55 rfl
           have r56:x56 = .bool false:=hR 56 x56 rfl
           have r57:x57 = .bool false:=hR 57 x57 rfl
           have r58:x58=undef:=hR 58 x58 rfl
           have r59:x59=undef:=hR 59 x59 rfl
           have r60:x60 = .bool false:=hR 60 x60 rfl
           clear hR
           subst r0 r1 r2 r3 r4 r5 r6 r7 r8 r9 r11 r12 r13 r14 r15 r16 r17 r18 r19 r20 r21 r22 r23 r24 r25 r26 r27 r28 r29 r30 r31 r32 r33 r34 r35 r36 r37 r38 r39 r40 r41 r42 r43 r44 r45 r46 r47 r48 r49 r50 r51 r52 r53 r54 r55 r56 r57 r58 r59 r60
           have HB9:=Bx.mk (HB3.out.trans (hb.mono HB3.out.size))
           clear hb hln hrs hud hrm hsm HRJ HI HCR
           simp only [puts,List.take_succ_cons,List.take_zero,List.drop_succ_cons,List.drop_zero,List.map_cons,List.map_nil,List.zip_cons_cons,List.zip_nil_right,List.foldl_cons,List.foldl_nil]
           go_wp2_with fail
           go_meet
           exact ⟨rfl,HB9⟩
      case rest =>
      obtain ⟨rfl,HB9⟩:=hcut
      have HI9:=Bx.mk (HI.out.later HB9.out)
      have hi16:=HI16.out.1
      clear HB9 HB3 hln hrs hud hrm hsm HRJ HI m1 m2 m3 e1 d0 d1 HCR d2 s1 s2 g1 g1b g2 g2b b1 b2
      go_wp2_with fail
      go_roundw
      case rel=>exact ⟨i+1,jp',pp',_,rc',L',by have:=HI16.out;omega,rfl,rfl,by go_num,HI9⟩
      case measure=>have:=HI16.out;simp [intOf];omega
    · have hrec0:recV L' kq = .tuple #[.string ⟨#[]⟩,.bool false]:=recV_out (by rw [←HM.out.1];exact hout)
      rw [hrec0] at hrec
      replace hrec:=Bx.mk hrec
      clear hrec0
      have hout2:(decide (kq ≥ 0)=false∧decide (0≤kq)=false ∧ ¬(0≤kq))∨(decide (kq ≥ 0)=true∧decide (0≤kq)=true∧decide (kq<(m:Int))=false∧0≤kq ∧ ¬kq<(m:Int)):=by
       by_cases h1:kq<0
       · exact .inl ⟨by simp;omega,by simp;omega,by omega⟩
       · exact .inr ⟨by simp;omega,by simp;omega,by simp;omega,by omega,by omega⟩
      clear hout
      have s1:((⟨#[]⟩:ByteArray).toList != (⟨#[]⟩:ByteArray).toList)=false:=by simp
      go_upto_region 28 with (go_at_call 17;refine hrec.out.mono ?_;rintro _ w3 ⟨rfl,hb3⟩)
      have HB3:=Bx.mk hb3
      obtain ⟨d0,d1⟩:=HRJ.out w3 hb3
      clear hb3 hrec
      go_cut [24] from 145 to 155 (fun v wx=>v = .bool false∧wx=w3)
      case first =>
       rcases hout2 with ⟨g1,g1b,g1c⟩ | ⟨g1,g1b,g2,g1c,g2c⟩
       · go_wp2_with fail
         go_meet
         exact ⟨rfl,rfl⟩
       · go_wp2_with fail
         go_meet
         exact ⟨rfl,rfl⟩
      case rest =>
      obtain ⟨rfl,hw3⟩:=hcut
      have hw4:w3=wc:=hw3.symm
      subst hw4
      clear hout2
      go_upto_region 29 with fail
      go_cut [217] from 156 to 217 (fun v wx=>v = .bool false∧Bx (Below W0.heap.size W0 wx))
      case first =>
       refine wp_region_relTS (sk:=fun ii=>ii == 43 || ii == 44 || ii == 45 || ii == 46 || ii == 47 || ii == 48 || ii == 49 || ii == 50 || ii == 51) 61 (fun ii v w'=>match ii with
        | 0=>v = .pointer (some ⟨jp',0,none⟩)
        | 1=>v = .int .i64 (m:Int)
        | 2=>v = .pointer (some ⟨tb,0,none⟩)
        | 3=>v = .pointer (some ⟨tb,0,none⟩)
        | 4=>v = .pointer (some ⟨tb,1,none⟩)
        | 5=>v = .slice ra' m rc'
        | 6=>v = .int .i64 (m:Int)
        | 7=>v = .bool false
        | 8=>v = .bool false
        | 9=>v = .pointer (some ⟨jp',0,none⟩)
        | 10=>RcR m L' v w'
        | 11=>v = .pointer (some ⟨tb,0,none⟩)
        | 12=>v = .pointer (some ⟨tb,0,none⟩)
        | 13=>v = .pointer (some ⟨tb,1,none⟩)
        | 14=>v = .slice ra' m rc'
        | 15=>v = .bool true
        | 16=>v = .bool false
        | 17=>v = .bool false
        | 18=>v = .bool false
        | 19=>v = .pointer (some ⟨jp',0,none⟩)
        | 20=>v = .int .i64 (u:Int)
        | 21=>v = .int .i64 (u:Int)
        | 22=>v = .bool false
        | 23=>v = .bool false
        | 24=>v = .bool false
        | 25=>v = .pointer (some ⟨jp',0,none⟩)
        | 26=>v = .int .i64 ((sz - u:Nat):Int)
        | 27=>v = .pointer (some ⟨tb,0,none⟩)
        | 28=>v = .pointer (some ⟨tb,0,none⟩)
        | 29=>v = .pointer (some ⟨tb,0,none⟩)
        | 30=>v = .int .i64 (sz:Int)
        | 31=>v = .int .i64 (u:Int)
        | 32=>v = .int .i64 ((sz - u:Nat):Int)
        | 33=>v = .bool false
        | 34=>v = .bool false
        | 35=>v = .bool false
        | 36=>v = .bool false
        | 37=>v = .bool false
        | 38=>v = .bool false
        | 39=>v = .bool false
        | 40=>v = .bool false
        | 41=>v = .bool false
        | 42=>v = .bool false
        | 43=>v=undef
        | 44=>v=undef
        | 45=>v=undef
        | 46=>v=undef
        | 47=>v=undef
        | 48=>v=undef
        | 49=>v=undef
        | 50=>v=undef
        | 51=>v=undef
        | 52=>v = .bool false
        | 53=>v = .bool false
        | 54=>v = .bool false
        | 55=>v = .bool false
        | 56=>v = .bool true
        | 57=>v = .bool true
        | 58=>v = .string ⟨#[]⟩
        | 59=>v = .bool false
        | _=>v = .bool false) (by kernel_rfl) (by kernel_rfl) 219 (by kernel_rfl) (by rfl) ?_ ?_ ?_ ?_ ?_
       · intro ii o g b hi ho hg v w' hR
         match ii,hi with
         | 0,_=>obtain rfl:=Option.some.inj ho;cases hg
         | 1,_=>obtain rfl:=Option.some.inj ho;cases hg
         | 2,_=>obtain rfl:=Option.some.inj ho;cases hg
         | 3,_=>obtain rfl:=Option.some.inj ho;cases hg
         | 4,_=>obtain rfl:=Option.some.inj ho;cases hg
         | 5,_=>obtain rfl:=Option.some.inj ho;cases hg
         | 6,_=>obtain rfl:=Option.some.inj ho;cases hg
         | 7,_=>obtain rfl:=Option.some.inj ho;cases hg
         | 8,_=>obtain rfl:=Option.some.inj ho;cases hg
         | 9,_=>obtain rfl:=Option.some.inj ho;obtain ⟨rfl,rfl⟩:=Prod.mk.inj (Option.some.inj hg);exact hR
         | 10,_=>obtain rfl:=Option.some.inj ho;obtain ⟨rfl,rfl⟩:=Prod.mk.inj (Option.some.inj hg);exact hR
         | 11,_=>obtain rfl:=Option.some.inj ho;obtain ⟨rfl,rfl⟩:=Prod.mk.inj (Option.some.inj hg);exact hR
         | 12,_=>obtain rfl:=Option.some.inj ho;obtain ⟨rfl,rfl⟩:=Prod.mk.inj (Option.some.inj hg);exact hR
         | 13,_=>obtain rfl:=Option.some.inj ho;obtain ⟨rfl,rfl⟩:=Prod.mk.inj (Option.some.inj hg);exact hR
         | 14,_=>obtain rfl:=Option.some.inj ho;obtain ⟨rfl,rfl⟩:=Prod.mk.inj (Option.some.inj hg);exact hR
         | 15,_=>obtain rfl:=Option.some.inj ho;obtain ⟨rfl,rfl⟩:=Prod.mk.inj (Option.some.inj hg);exact hR
         | 16,_=>obtain rfl:=Option.some.inj ho;obtain ⟨rfl,rfl⟩:=Prod.mk.inj (Option.some.inj hg);exact hR
         | 17,_=>obtain rfl:=Option.some.inj ho;cases hg
         | 18,_=>obtain rfl:=Option.some.inj ho;cases hg
         | 19,_=>obtain rfl:=Option.some.inj ho;obtain ⟨rfl,rfl⟩:=Prod.mk.inj (Option.some.inj hg);exact hR
         | 20,_=>obtain rfl:=Option.some.inj ho;obtain ⟨rfl,rfl⟩:=Prod.mk.inj (Option.some.inj hg);exact hR
         | 21,_=>obtain rfl:=Option.some.inj ho;obtain ⟨rfl,rfl⟩:=Prod.mk.inj (Option.some.inj hg);exact hR
         | 22,_=>obtain rfl:=Option.some.inj ho;obtain ⟨rfl,rfl⟩:=Prod.mk.inj (Option.some.inj hg);exact hR
         | 23,_=>obtain rfl:=Option.some.inj ho;cases hg
         | 24,_=>obtain rfl:=Option.some.inj ho;cases hg
         | 25,_=>obtain rfl:=Option.some.inj ho;obtain ⟨rfl,rfl⟩:=Prod.mk.inj (Option.some.inj hg);exact hR
         | 26,_=>obtain rfl:=Option.some.inj ho;obtain ⟨rfl,rfl⟩:=Prod.mk.inj (Option.some.inj hg);exact hR
         | 27,_=>obtain rfl:=Option.some.inj ho;obtain ⟨rfl,rfl⟩:=Prod.mk.inj (Option.some.inj hg);exact hR
         | 28,_=>obtain rfl:=Option.some.inj ho;obtain ⟨rfl,rfl⟩:=Prod.mk.inj (Option.some.inj hg);exact hR
         | 29,_=>obtain rfl:=Option.some.inj ho;obtain ⟨rfl,rfl⟩:=Prod.mk.inj (Option.some.inj hg);exact hR
         | 30,_=>obtain rfl:=Option.some.inj ho;obtain ⟨rfl,rfl⟩:=Prod.mk.inj (Option.some.inj hg);exact hR
         | 31,_=>obtain rfl:=Option.some.inj ho;obtain ⟨rfl,rfl⟩:=Prod.mk.inj (Option.some.inj hg);exact hR
         | 32,_=>obtain rfl:=Option.some.inj ho;obtain ⟨rfl,rfl⟩:=Prod.mk.inj (Option.some.inj hg);exact hR
         | 33,_=>obtain rfl:=Option.some.inj ho;obtain ⟨rfl,rfl⟩:=Prod.mk.inj (Option.some.inj hg);exact hR
         | 34,_=>obtain rfl:=Option.some.inj ho;cases hg
         | 35,_=>obtain rfl:=Option.some.inj ho;cases hg
         | 36,_=>obtain rfl:=Option.some.inj ho;obtain ⟨rfl,rfl⟩:=Prod.mk.inj (Option.some.inj hg);exact hR
         | 37,_=>obtain rfl:=Option.some.inj ho;obtain ⟨rfl,rfl⟩:=Prod.mk.inj (Option.some.inj hg);exact hR
         | 38,_=>obtain rfl:=Option.some.inj ho;obtain ⟨rfl,rfl⟩:=Prod.mk.inj (Option.some.inj hg);exact hR
         | 39,_=>obtain rfl:=Option.some.inj ho;cases hg
         | 40,_=>obtain rfl:=Option.some.inj ho;cases hg
         | 41,_=>obtain rfl:=Option.some.inj ho;obtain ⟨rfl,rfl⟩:=Prod.mk.inj (Option.some.inj hg);exact hR
         | 42,_=>obtain rfl:=Option.some.inj ho;obtain ⟨rfl,rfl⟩:=Prod.mk.inj (Option.some.inj hg);exact hR
         | 43,_=>obtain rfl:=Option.some.inj ho;obtain ⟨rfl,rfl⟩:=Prod.mk.inj (Option.some.inj hg);exact hR
         | 44,_=>obtain rfl:=Option.some.inj ho;obtain ⟨rfl,rfl⟩:=Prod.mk.inj (Option.some.inj hg);exact hR
         | 45,_=>obtain rfl:=Option.some.inj ho;obtain ⟨rfl,rfl⟩:=Prod.mk.inj (Option.some.inj hg);exact hR
         | 46,_=>obtain rfl:=Option.some.inj ho;obtain ⟨rfl,rfl⟩:=Prod.mk.inj (Option.some.inj hg);exact hR
         | 47,_=>obtain rfl:=Option.some.inj ho;obtain ⟨rfl,rfl⟩:=Prod.mk.inj (Option.some.inj hg);exact hR
         | 48,_=>obtain rfl:=Option.some.inj ho;obtain ⟨rfl,rfl⟩:=Prod.mk.inj (Option.some.inj hg);exact hR
         | 49,_=>obtain rfl:=Option.some.inj ho;obtain ⟨rfl,rfl⟩:=Prod.mk.inj (Option.some.inj hg);exact hR
         | 50,_=>obtain rfl:=Option.some.inj ho;obtain ⟨rfl,rfl⟩:=Prod.mk.inj (Option.some.inj hg);exact hR
         | 51,_=>obtain rfl:=Option.some.inj ho;obtain ⟨rfl,rfl⟩:=Prod.mk.inj (Option.some.inj hg);exact hR
         | 52,_=>obtain rfl:=Option.some.inj ho;obtain ⟨rfl,rfl⟩:=Prod.mk.inj (Option.some.inj hg);exact hR
         | 53,_=>obtain rfl:=Option.some.inj ho;cases hg
         | 54,_=>obtain rfl:=Option.some.inj ho;cases hg
         | 55,_=>obtain rfl:=Option.some.inj ho;obtain ⟨rfl,rfl⟩:=Prod.mk.inj (Option.some.inj hg);exact hR
         | 56,_=>obtain rfl:=Option.some.inj ho;obtain ⟨rfl,rfl⟩:=Prod.mk.inj (Option.some.inj hg);exact hR
         | 57,_=>obtain rfl:=Option.some.inj ho;obtain ⟨rfl,rfl⟩:=Prod.mk.inj (Option.some.inj hg);exact hR
         | 58,_=>obtain rfl:=Option.some.inj ho;obtain ⟨rfl,rfl⟩:=Prod.mk.inj (Option.some.inj hg);exact hR
         | 59,_=>obtain rfl:=Option.some.inj ho;obtain ⟨rfl,rfl⟩:=Prod.mk.inj (Option.some.inj hg);exact hR
         | 60,_=>obtain rfl:=Option.some.inj ho;obtain ⟨rfl,rfl⟩:=Prod.mk.inj (Option.some.inj hg);exact hR
         | q+61,hi=>exact absurd hi (by omega)
       · intro ii o hi ho hs
         match ii,hi with
         | 0,_=>exact absurd hs (by decide)
         | 1,_=>exact absurd hs (by decide)
         | 2,_=>exact absurd hs (by decide)
         | 3,_=>exact absurd hs (by decide)
         | 4,_=>exact absurd hs (by decide)
         | 5,_=>exact absurd hs (by decide)
         | 6,_=>exact absurd hs (by decide)
         | 7,_=>exact absurd hs (by decide)
         | 8,_=>exact absurd hs (by decide)
         | 9,_=>exact absurd hs (by decide)
         | 10,_=>exact absurd hs (by decide)
         | 11,_=>exact absurd hs (by decide)
         | 12,_=>exact absurd hs (by decide)
         | 13,_=>exact absurd hs (by decide)
         | 14,_=>exact absurd hs (by decide)
         | 15,_=>exact absurd hs (by decide)
         | 16,_=>exact absurd hs (by decide)
         | 17,_=>exact absurd hs (by decide)
         | 18,_=>exact absurd hs (by decide)
         | 19,_=>exact absurd hs (by decide)
         | 20,_=>exact absurd hs (by decide)
         | 21,_=>exact absurd hs (by decide)
         | 22,_=>exact absurd hs (by decide)
         | 23,_=>exact absurd hs (by decide)
         | 24,_=>exact absurd hs (by decide)
         | 25,_=>exact absurd hs (by decide)
         | 26,_=>exact absurd hs (by decide)
         | 27,_=>exact absurd hs (by decide)
         | 28,_=>exact absurd hs (by decide)
         | 29,_=>exact absurd hs (by decide)
         | 30,_=>exact absurd hs (by decide)
         | 31,_=>exact absurd hs (by decide)
         | 32,_=>exact absurd hs (by decide)
         | 33,_=>exact absurd hs (by decide)
         | 34,_=>exact absurd hs (by decide)
         | 35,_=>exact absurd hs (by decide)
         | 36,_=>exact absurd hs (by decide)
         | 37,_=>exact absurd hs (by decide)
         | 38,_=>exact absurd hs (by decide)
         | 39,_=>exact absurd hs (by decide)
         | 40,_=>exact absurd hs (by decide)
         | 41,_=>exact absurd hs (by decide)
         | 42,_=>exact absurd hs (by decide)
         | 43,_=>obtain rfl:=Option.some.inj ho;exact ⟨⟨_,rfl⟩,fun _=>rfl⟩
         | 44,_=>obtain rfl:=Option.some.inj ho;exact ⟨⟨_,rfl⟩,fun _=>rfl⟩
         | 45,_=>obtain rfl:=Option.some.inj ho;exact ⟨⟨_,rfl⟩,fun _=>rfl⟩
         | 46,_=>obtain rfl:=Option.some.inj ho;exact ⟨⟨_,rfl⟩,fun _=>rfl⟩
         | 47,_=>obtain rfl:=Option.some.inj ho;exact ⟨⟨_,rfl⟩,fun _=>rfl⟩
         | 48,_=>obtain rfl:=Option.some.inj ho;exact ⟨⟨_,rfl⟩,fun _=>rfl⟩
         | 49,_=>obtain rfl:=Option.some.inj ho;exact ⟨⟨_,rfl⟩,fun _=>rfl⟩
         | 50,_=>obtain rfl:=Option.some.inj ho;exact ⟨⟨_,rfl⟩,fun _=>rfl⟩
         | 51,_=>obtain rfl:=Option.some.inj ho;exact ⟨⟨_,rfl⟩,fun _=>rfl⟩
         | 52,_=>exact absurd hs (by decide)
         | 53,_=>exact absurd hs (by decide)
         | 54,_=>exact absurd hs (by decide)
         | 55,_=>exact absurd hs (by decide)
         | 56,_=>exact absurd hs (by decide)
         | 57,_=>exact absurd hs (by decide)
         | 58,_=>exact absurd hs (by decide)
         | 59,_=>exact absurd hs (by decide)
         | 60,_=>exact absurd hs (by decide)
         | q+61,hi=>exact absurd hi (by omega)
       · intro ii hi v u1 u2 hb h
         match ii,hi with
         | 0,_=>exact h
         | 1,_=>exact h
         | 2,_=>exact h
         | 3,_=>exact h
         | 4,_=>exact h
         | 5,_=>exact h
         | 6,_=>exact h
         | 7,_=>exact h
         | 8,_=>exact h
         | 9,_=>exact h
         | 10,_=>exact h.later hb
         | 11,_=>exact h
         | 12,_=>exact h
         | 13,_=>exact h
         | 14,_=>exact h
         | 15,_=>exact h
         | 16,_=>exact h
         | 17,_=>exact h
         | 18,_=>exact h
         | 19,_=>exact h
         | 20,_=>exact h
         | 21,_=>exact h
         | 22,_=>exact h
         | 23,_=>exact h
         | 24,_=>exact h
         | 25,_=>exact h
         | 26,_=>exact h
         | 27,_=>exact h
         | 28,_=>exact h
         | 29,_=>exact h
         | 30,_=>exact h
         | 31,_=>exact h
         | 32,_=>exact h
         | 33,_=>exact h
         | 34,_=>exact h
         | 35,_=>exact h
         | 36,_=>exact h
         | 37,_=>exact h
         | 38,_=>exact h
         | 39,_=>exact h
         | 40,_=>exact h
         | 41,_=>exact h
         | 42,_=>exact h
         | 43,_=>exact h
         | 44,_=>exact h
         | 45,_=>exact h
         | 46,_=>exact h
         | 47,_=>exact h
         | 48,_=>exact h
         | 49,_=>exact h
         | 50,_=>exact h
         | 51,_=>exact h
         | 52,_=>exact h
         | 53,_=>exact h
         | 54,_=>exact h
         | 55,_=>exact h
         | 56,_=>exact h
         | 57,_=>exact h
         | 58,_=>exact h
         | 59,_=>exact h
         | 60,_=>exact h
         | q+61,hi=>exact absurd hi (by omega)
       · intro ii o hi ho hs ρ wx hb hc1 hc2 hc3 hk
         match ii,hi with
         | 0, _ =>
           obtain rfl:=Option.some.inj ho
           clear hs
           have g0:ρ (.tmp 9) = .pointer (some ⟨jp',0,none⟩):=hk 9 (by simp [Op.operands,Call.operands])
           clear hk hb HB3 hln hrs hud hrm hsm HRJ HI
           go_simp
           exact Below.refl _ _
         | 1, _ =>
           obtain rfl:=Option.some.inj ho
           clear hs
           have g0:ρ (.tmp 156) = .pointer (some ⟨jp',0,none⟩):=hk 156 (by simp [Op.operands,Call.operands])
           have h4:=hln.out wx (HB3.out.trans (hb.mono HB3.out.size))
           have H4:=Bx.mk h4
           clear h4
           clear hk hb HB3 hln hrs hud hrm hsm HRJ HI
           go_simp
           all_goals exact H4.out
         | 2, _ =>
           obtain rfl:=Option.some.inj ho
           clear hs
           have g0:ρ (.tmp 11) = .pointer (some ⟨tb,0,none⟩):=hk 11 (by simp [Op.operands,Call.operands])
           clear hk hb HB3 hln hrs hud hrm hsm HRJ HI
           go_simp
           exact Below.refl _ _
         | 3, _ =>
           obtain rfl:=Option.some.inj ho
           clear hs
           have g0:ρ (.tmp 158) = .pointer (some ⟨tb,0,none⟩):=hk 158 (by simp [Op.operands,Call.operands])
           clear hk hb HB3 hln hrs hud hrm hsm HRJ HI
           go_simp
           exact Below.refl _ _
         | 4, _ =>
           obtain rfl:=Option.some.inj ho
           clear hs
           have g0:ρ (.tmp 159) = .pointer (some ⟨tb,0,none⟩):=hk 159 (by simp [Op.operands,Call.operands])
           clear hk hb HB3 hln hrs hud hrm hsm HRJ HI
           go_simp
           exact Below.refl _ _
         | 5, _ =>
           obtain rfl:=Option.some.inj ho
           clear hs
           have g0:ρ (.tmp 160) = .pointer (some ⟨tb,1,none⟩):=hk 160 (by simp [Op.operands,Call.operands])
           obtain ⟨d0,d1⟩:=HRJ.out wx (HB3.out.trans (hb.mono HB3.out.size))
           clear hk hb HB3 hln hrs hud hrm hsm HRJ HI
           go_simp
           exact Below.refl _ _
         | 6, _ =>
           obtain rfl:=Option.some.inj ho
           clear hs
           have g0:ρ (.tmp 161) = .slice ra' m rc':=hk 161 (by simp [Op.operands,Call.operands])
           clear hk hb HB3 hln hrs hud hrm hsm HRJ HI
           go_simp
           exact Below.refl _ _
         | 7, _ =>
           obtain rfl:=Option.some.inj ho
           clear hs
           have g0:ρ (.tmp 157) = .int .i64 (m:Int):=hk 157 (by simp [Op.operands,Call.operands])
           have g1:ρ (.tmp 162) = .int .i64 (m:Int):=hk 162 (by simp [Op.operands,Call.operands])
           clear hk hb HB3 hln hrs hud hrm hsm HRJ HI
           go_simp
           exact Below.refl _ _
         | 8, _ =>
           obtain rfl:=Option.some.inj ho
           clear hs
           have g0:ρ (.tmp 163) = .bool false:=hk 163 (by simp [Op.operands,Call.operands])
           clear hk hb HB3 hln hrs hud hrm hsm HRJ HI
           go_simp
           exact Below.refl _ _
         | 9, _ =>
           obtain rfl:=Option.some.inj ho
           clear hs
           have g0:ρ (.tmp 9) = .pointer (some ⟨jp',0,none⟩):=hk 9 (by simp [Op.operands,Call.operands])
           clear hk hb HB3 hln hrs hud hrm hsm HRJ HI
           go_simp
           exact Below.refl _ _
         | 10, _ =>
           obtain rfl:=Option.some.inj ho
           clear hs
           have g0:ρ (.tmp 165) = .pointer (some ⟨jp',0,none⟩):=hk 165 (by simp [Op.operands,Call.operands])
           have h4:=(hrs.out wx (HB3.out.trans (hb.mono HB3.out.size))).mono fun e w' h=>(show ∃ v,e = .returned v∧Below wx.heap.size wx w'∧RcR m L' v w' from by obtain ⟨v,h1,h2,h3⟩:=h;exact ⟨v,h1,h2,RcR.of HM.out.1 h3⟩)
           have H4:=Bx.mk h4
           clear h4
           clear hk hb HB3 hln hrs hud hrm hsm HRJ HI
           go_simp
           all_goals exact H4.out
         | 11, _ =>
           obtain rfl:=Option.some.inj ho
           clear hs
           have g0:ρ (.tmp 11) = .pointer (some ⟨tb,0,none⟩):=hk 11 (by simp [Op.operands,Call.operands])
           clear hk hb HB3 hln hrs hud hrm hsm HRJ HI
           go_simp
           exact Below.refl _ _
         | 12, _ =>
           obtain rfl:=Option.some.inj ho
           clear hs
           have g0:ρ (.tmp 167) = .pointer (some ⟨tb,0,none⟩):=hk 167 (by simp [Op.operands,Call.operands])
           clear hk hb HB3 hln hrs hud hrm hsm HRJ HI
           go_simp
           exact Below.refl _ _
         | 13, _ =>
           obtain rfl:=Option.some.inj ho
           clear hs
           have g0:ρ (.tmp 168) = .pointer (some ⟨tb,0,none⟩):=hk 168 (by simp [Op.operands,Call.operands])
           clear hk hb HB3 hln hrs hud hrm hsm HRJ HI
           go_simp
           exact Below.refl _ _
         | 14, _ =>
           obtain rfl:=Option.some.inj ho
           clear hs
           have g0:ρ (.tmp 169) = .pointer (some ⟨tb,1,none⟩):=hk 169 (by simp [Op.operands,Call.operands])
           obtain ⟨d0,d1⟩:=HRJ.out wx (HB3.out.trans (hb.mono HB3.out.size))
           clear hk hb HB3 hln hrs hud hrm hsm HRJ HI
           go_simp
           exact Below.refl _ _
         | 15, _ =>
           obtain rfl:=Option.some.inj ho
           clear hs
           have g0:ρ (.tmp 170) = .slice ra' m rc':=hk 170 (by simp [Op.operands,Call.operands])
           have gp:RcR m L' (ρ (.tmp 166)) wx:=hk 166 (by simp [Op.operands,Call.operands])
           obtain ⟨va,vc,g1,hsv⟩:=gp
           have h4:=hsm.out wx (HB3.out.trans (hb.mono HB3.out.size)) va vc hsv
           have H4:=Bx.mk h4
           clear h4 hsv
           clear hk hb HB3 hln hrs hud hrm hsm HRJ HI
           go_simp
           all_goals exact H4.out
         | 16, _ =>
           obtain rfl:=Option.some.inj ho
           clear hs
           have g0:ρ (.tmp 171) = .bool true:=hk 171 (by simp [Op.operands,Call.operands])
           clear hk hb HB3 hln hrs hud hrm hsm HRJ HI
           go_simp
           exact Below.refl _ _
         | 17, _ =>
           obtain rfl:=Option.some.inj ho
           clear hs
           have g0:ρ (.tmp 164) = .bool false:=hk 164 (by simp [Op.operands,Call.operands])
           have g1:ρ (.tmp 172) = .bool false:=hk 172 (by simp [Op.operands,Call.operands])
           clear hk hb HB3 hln hrs hud hrm hsm HRJ HI
           go_simp
           exact Below.refl _ _
         | 18, _ =>
           obtain rfl:=Option.some.inj ho
           clear hs
           have g0:ρ (.tmp 173) = .bool false:=hk 173 (by simp [Op.operands,Call.operands])
           clear hk hb HB3 hln hrs hud hrm hsm HRJ HI
           go_simp
           exact Below.refl _ _
         | 19, _ =>
           obtain rfl:=Option.some.inj ho
           clear hs
           have g0:ρ (.tmp 9) = .pointer (some ⟨jp',0,none⟩):=hk 9 (by simp [Op.operands,Call.operands])
           clear hk hb HB3 hln hrs hud hrm hsm HRJ HI
           go_simp
           exact Below.refl _ _
         | 20, _ =>
           obtain rfl:=Option.some.inj ho
           clear hs
           have g0:ρ (.tmp 175) = .pointer (some ⟨jp',0,none⟩):=hk 175 (by simp [Op.operands,Call.operands])
           have h4:=hud.out wx (HB3.out.trans (hb.mono HB3.out.size))
           have H4:=Bx.mk h4
           clear h4
           clear hk hb HB3 hln hrs hud hrm hsm HRJ HI
           go_simp
           all_goals exact H4.out
         | 21, _ =>
           obtain rfl:=Option.some.inj ho
           clear hs
           have g0:ρ (.tmp 21) = .int .i64 (u:Int):=hk 21 (by simp [Op.operands,Call.operands])
           clear hk hb HB3 hln hrs hud hrm hsm HRJ HI
           go_simp
           exact Below.refl _ _
         | 22, _ =>
           obtain rfl:=Option.some.inj ho
           clear hs
           have g0:ρ (.tmp 176) = .int .i64 (u:Int):=hk 176 (by simp [Op.operands,Call.operands])
           have g1:ρ (.tmp 177) = .int .i64 (u:Int):=hk 177 (by simp [Op.operands,Call.operands])
           clear hk hb HB3 hln hrs hud hrm hsm HRJ HI
           go_simp
           exact Below.refl _ _
         | 23, _ =>
           obtain rfl:=Option.some.inj ho
           clear hs
           have g0:ρ (.tmp 174) = .bool false:=hk 174 (by simp [Op.operands,Call.operands])
           have g1:ρ (.tmp 178) = .bool false:=hk 178 (by simp [Op.operands,Call.operands])
           clear hk hb HB3 hln hrs hud hrm hsm HRJ HI
           go_simp
           exact Below.refl _ _
         | 24, _ =>
           obtain rfl:=Option.some.inj ho
           clear hs
           have g0:ρ (.tmp 179) = .bool false:=hk 179 (by simp [Op.operands,Call.operands])
           clear hk hb HB3 hln hrs hud hrm hsm HRJ HI
           go_simp
           exact Below.refl _ _
         | 25, _ =>
           obtain rfl:=Option.some.inj ho
           clear hs
           have g0:ρ (.tmp 9) = .pointer (some ⟨jp',0,none⟩):=hk 9 (by simp [Op.operands,Call.operands])
           clear hk hb HB3 hln hrs hud hrm hsm HRJ HI
           go_simp
           exact Below.refl _ _
         | 26, _ =>
           obtain rfl:=Option.some.inj ho
           clear hs
           have g0:ρ (.tmp 181) = .pointer (some ⟨jp',0,none⟩):=hk 181 (by simp [Op.operands,Call.operands])
           have h4:=hrm.out wx (HB3.out.trans (hb.mono HB3.out.size))
           have H4:=Bx.mk h4
           clear h4
           clear hk hb HB3 hln hrs hud hrm hsm HRJ HI
           go_simp
           all_goals exact H4.out
         | 27, _ =>
           obtain rfl:=Option.some.inj ho
           clear hs
           have g0:ρ (.tmp 11) = .pointer (some ⟨tb,0,none⟩):=hk 11 (by simp [Op.operands,Call.operands])
           clear hk hb HB3 hln hrs hud hrm hsm HRJ HI
           go_simp
           exact Below.refl _ _
         | 28, _ =>
           obtain rfl:=Option.some.inj ho
           clear hs
           have g0:ρ (.tmp 183) = .pointer (some ⟨tb,0,none⟩):=hk 183 (by simp [Op.operands,Call.operands])
           clear hk hb HB3 hln hrs hud hrm hsm HRJ HI
           go_simp
           exact Below.refl _ _
         | 29, _ =>
           obtain rfl:=Option.some.inj ho
           clear hs
           have g0:ρ (.tmp 184) = .pointer (some ⟨tb,0,none⟩):=hk 184 (by simp [Op.operands,Call.operands])
           clear hk hb HB3 hln hrs hud hrm hsm HRJ HI
           go_simp
           exact Below.refl _ _
         | 30, _ =>
           obtain rfl:=Option.some.inj ho
           clear hs
           have g0:ρ (.tmp 185) = .pointer (some ⟨tb,0,none⟩):=hk 185 (by simp [Op.operands,Call.operands])
           obtain ⟨d0,d1⟩:=HRJ.out wx (HB3.out.trans (hb.mono HB3.out.size))
           clear hk hb HB3 hln hrs hud hrm hsm HRJ HI
           go_simp
           exact Below.refl _ _
         | 31, _ =>
           obtain rfl:=Option.some.inj ho
           clear hs
           have g0:ρ (.tmp 21) = .int .i64 (u:Int):=hk 21 (by simp [Op.operands,Call.operands])
           clear hk hb HB3 hln hrs hud hrm hsm HRJ HI
           go_simp
           exact Below.refl _ _
         | 32, _ =>
           obtain rfl:=Option.some.inj ho
           clear hs
           have g0:ρ (.tmp 186) = .int .i64 (sz:Int):=hk 186 (by simp [Op.operands,Call.operands])
           have g1:ρ (.tmp 187) = .int .i64 (u:Int):=hk 187 (by simp [Op.operands,Call.operands])
           clear hk hb HB3 hln hrs hud hrm hsm HRJ HI
           go_simp
           exact Below.refl _ _
         | 33, _ =>
           obtain rfl:=Option.some.inj ho
           clear hs
           have g0:ρ (.tmp 182) = .int .i64 ((sz - u:Nat):Int):=hk 182 (by simp [Op.operands,Call.operands])
           have g1:ρ (.tmp 188) = .int .i64 ((sz - u:Nat):Int):=hk 188 (by simp [Op.operands,Call.operands])
           clear hk hb HB3 hln hrs hud hrm hsm HRJ HI
           go_simp
           exact Below.refl _ _
         | 34, _ =>
           obtain rfl:=Option.some.inj ho
           clear hs
           have g0:ρ (.tmp 180) = .bool false:=hk 180 (by simp [Op.operands,Call.operands])
           have g1:ρ (.tmp 189) = .bool false:=hk 189 (by simp [Op.operands,Call.operands])
           clear hk hb HB3 hln hrs hud hrm hsm HRJ HI
           go_simp
           exact Below.refl _ _
         | 35, _ =>
           obtain rfl:=Option.some.inj ho
           clear hs
           have g0:ρ (.tmp 190) = .bool false:=hk 190 (by simp [Op.operands,Call.operands])
           clear hk hb HB3 hln hrs hud hrm hsm HRJ HI
           go_simp
           exact Below.refl _ _
         | 36, _ =>
           obtain rfl:=Option.some.inj ho
           clear hs
           have g0:ρ (.tmp 23) = .bool false:=hk 23 (by simp [Op.operands,Call.operands])
           clear hk hb HB3 hln hrs hud hrm hsm HRJ HI
           go_simp
           exact Below.refl _ _
         | 37, _ =>
           obtain rfl:=Option.some.inj ho
           clear hs
           have g0:ρ (.tmp 24) = .bool false:=hk 24 (by simp [Op.operands,Call.operands])
           clear hk hb HB3 hln hrs hud hrm hsm HRJ HI
           go_simp
           exact Below.refl _ _
         | 38, _ =>
           obtain rfl:=Option.some.inj ho
           clear hs
           have g0:ρ (.tmp 192) = .bool false:=hk 192 (by simp [Op.operands,Call.operands])
           have g1:ρ (.tmp 193) = .bool false:=hk 193 (by simp [Op.operands,Call.operands])
           clear hk hb HB3 hln hrs hud hrm hsm HRJ HI
           go_simp
           exact Below.refl _ _
         | 39, _ =>
           obtain rfl:=Option.some.inj ho
           clear hs
           have g0:ρ (.tmp 191) = .bool false:=hk 191 (by simp [Op.operands,Call.operands])
           have g1:ρ (.tmp 194) = .bool false:=hk 194 (by simp [Op.operands,Call.operands])
           clear hk hb HB3 hln hrs hud hrm hsm HRJ HI
           go_simp
           exact Below.refl _ _
         | 40, _ =>
           obtain rfl:=Option.some.inj ho
           clear hs
           have g0:ρ (.tmp 195) = .bool false:=hk 195 (by simp [Op.operands,Call.operands])
           clear hk hb HB3 hln hrs hud hrm hsm HRJ HI
           go_simp
           exact Below.refl _ _
         | 41, _ =>
           obtain rfl:=Option.some.inj ho
           clear hs
           have g0:ρ (.tmp 24) = .bool false:=hk 24 (by simp [Op.operands,Call.operands])
           clear hk hb HB3 hln hrs hud hrm hsm HRJ HI
           go_simp
           exact Below.refl _ _
         | 42, _ =>
           obtain rfl:=Option.some.inj ho
           clear hs
           have g0:ρ (.tmp 197) = .bool false:=hk 197 (by simp [Op.operands,Call.operands])
           clear hk hb HB3 hln hrs hud hrm hsm HRJ HI
           go_simp
           exact Below.refl _ _
         | 43,_=>exact absurd hs (by decide)
         | 44,_=>exact absurd hs (by decide)
         | 45,_=>exact absurd hs (by decide)
         | 46,_=>exact absurd hs (by decide)
         | 47,_=>exact absurd hs (by decide)
         | 48,_=>exact absurd hs (by decide)
         | 49,_=>exact absurd hs (by decide)
         | 50,_=>exact absurd hs (by decide)
         | 51,_=>exact absurd hs (by decide)
         | 52, _ =>
           obtain rfl:=Option.some.inj ho
           clear hs
           have g0:ρ (.tmp 198) = .bool false:=hk 198 (by simp [Op.operands,Call.operands])
           have g1:ρ (.tmp 207)=undef:=hk 207 (by simp [Op.operands,Call.operands])
           clear hk hb HB3 hln hrs hud hrm hsm HRJ HI
           go_simp
           exact Below.refl _ _
         | 53, _ =>
           obtain rfl:=Option.some.inj ho
           clear hs
           have g0:ρ (.tmp 196) = .bool false:=hk 196 (by simp [Op.operands,Call.operands])
           have g1:ρ (.tmp 208) = .bool false:=hk 208 (by simp [Op.operands,Call.operands])
           clear hk hb HB3 hln hrs hud hrm hsm HRJ HI
           go_simp
           exact Below.refl _ _
         | 54, _ =>
           obtain rfl:=Option.some.inj ho
           clear hs
           have g0:ρ (.tmp 209) = .bool false:=hk 209 (by simp [Op.operands,Call.operands])
           clear hk hb HB3 hln hrs hud hrm hsm HRJ HI
           go_simp
           exact Below.refl _ _
         | 55, _ =>
           obtain rfl:=Option.some.inj ho
           clear hs
           have g0:ρ (.tmp 24) = .bool false:=hk 24 (by simp [Op.operands,Call.operands])
           clear hk hb HB3 hln hrs hud hrm hsm HRJ HI
           go_simp
           exact Below.refl _ _
         | 56, _ =>
           obtain rfl:=Option.some.inj ho
           clear hs
           have g0:ρ (.tmp 211) = .bool false:=hk 211 (by simp [Op.operands,Call.operands])
           clear hk hb HB3 hln hrs hud hrm hsm HRJ HI
           go_simp
           exact Below.refl _ _
         | 57, _ =>
           obtain rfl:=Option.some.inj ho
           clear hs
           have g0:ρ (.tmp 212) = .bool true:=hk 212 (by simp [Op.operands,Call.operands])
           clear hk hb HB3 hln hrs hud hrm hsm HRJ HI
           go_simp
           exact Below.refl _ _
         | 58, _ =>
           obtain rfl:=Option.some.inj ho
           clear hs
           have g0:ρ (.tmp 22) = .string ⟨#[]⟩:=hk 22 (by simp [Op.operands,Call.operands])
           clear hk hb HB3 hln hrs hud hrm hsm HRJ HI
           go_simp
           exact Below.refl _ _
         | 59, _ =>
           obtain rfl:=Option.some.inj ho
           clear hs
           have g0:ρ (.tmp 214) = .string ⟨#[]⟩:=hk 214 (by simp [Op.operands,Call.operands])
           clear hk hb HB3 hln hrs hud hrm hsm HRJ HI
           go_simp
           exact Below.refl _ _
         | 60, _ =>
           obtain rfl:=Option.some.inj ho
           clear hs
           have g0:ρ (.tmp 213) = .bool true:=hk 213 (by simp [Op.operands,Call.operands])
           have g1:ρ (.tmp 215) = .bool false:=hk 215 (by simp [Op.operands,Call.operands])
           clear hk hb HB3 hln hrs hud hrm hsm HRJ HI
           go_simp
           exact Below.refl _ _
         | q+61,hi=>exact absurd hi (by omega)
       · intro vs w9 hlen hb hR
         match vs,hlen with
         | x0 :: x1 :: x2 :: x3 :: x4 :: x5 :: x6 :: x7 :: x8 :: x9 :: x10 :: x11 :: x12 :: x13 :: x14 :: x15 :: x16 :: x17 :: x18 :: x19 :: x20 :: x21 :: x22 :: x23 :: x24 :: x25 :: x26 :: x27 :: x28 :: x29 :: x30 :: x31 :: x32 :: x33 :: x34 :: x35 :: x36 :: x37 :: x38 :: x39 :: x40 :: x41 :: x42 :: x43 :: x44 :: x45 :: x46 :: x47 :: x48 :: x49 :: x50 :: x51 :: x52 :: x53 :: x54 :: x55 :: x56 :: x57 :: x58 :: x59 :: x60 :: [], _ =>
           have r0:x0 = .pointer (some ⟨jp',0,none⟩):=hR 0 x0 rfl
           have r1:x1 = .int .i64 (m:Int):=hR 1 x1 rfl
           have r2:x2 = .pointer (some ⟨tb,0,none⟩):=hR 2 x2 rfl
           have r3:x3 = .pointer (some ⟨tb,0,none⟩):=hR 3 x3 rfl
           have r4:x4 = .pointer (some ⟨tb,1,none⟩):=hR 4 x4 rfl
           have r5:x5 = .slice ra' m rc':=hR 5 x5 rfl
           have r6:x6 = .int .i64 (m:Int):=hR 6 x6 rfl
           have r7:x7 = .bool false:=hR 7 x7 rfl
           have r8:x8 = .bool false:=hR 8 x8 rfl
           have r9:x9 = .pointer (some ⟨jp',0,none⟩):=hR 9 x9 rfl
           have r11:x11 = .pointer (some ⟨tb,0,none⟩):=hR 11 x11 rfl
           have r12:x12 = .pointer (some ⟨tb,0,none⟩):=hR 12 x12 rfl
           have r13:x13 = .pointer (some ⟨tb,1,none⟩):=hR 13 x13 rfl
           have r14:x14 = .slice ra' m rc':=hR 14 x14 rfl
           have r15:x15 = .bool true:=hR 15 x15 rfl
           have r16:x16 = .bool false:=hR 16 x16 rfl
           have r17:x17 = .bool false:=hR 17 x17 rfl
           have r18:x18 = .bool false:=hR 18 x18 rfl
           have r19:x19 = .pointer (some ⟨jp',0,none⟩):=hR 19 x19 rfl
           have r20:x20 = .int .i64 (u:Int):=hR 20 x20 rfl
           have r21:x21 = .int .i64 (u:Int):=hR 21 x21 rfl
           have r22:x22 = .bool false:=hR 22 x22 rfl
           have r23:x23 = .bool false:=hR 23 x23 rfl
           have r24:x24 = .bool false:=hR 24 x24 rfl
           have r25:x25 = .pointer (some ⟨jp',0,none⟩):=hR 25 x25 rfl
           have r26:x26 = .int .i64 ((sz - u:Nat):Int):=hR 26 x26 rfl
           have r27:x27 = .pointer (some ⟨tb,0,none⟩):=hR 27 x27 rfl
           have r28:x28 = .pointer (some ⟨tb,0,none⟩):=hR 28 x28 rfl
           have r29:x29 = .pointer (some ⟨tb,0,none⟩):=hR 29 x29 rfl
           have r30:x30 = .int .i64 (sz:Int):=hR 30 x30 rfl
           have r31:x31 = .int .i64 (u:Int):=hR 31 x31 rfl
           have r32:x32 = .int .i64 ((sz - u:Nat):Int):=hR 32 x32 rfl
           have r33:x33 = .bool false:=hR 33 x33 rfl
           have r34:x34 = .bool false:=hR 34 x34 rfl
           have r35:x35 = .bool false:=hR 35 x35 rfl
           have r36:x36 = .bool false:=hR 36 x36 rfl
           have r37:x37 = .bool false:=hR 37 x37 rfl
           have r38:x38 = .bool false:=hR 38 x38 rfl
           have r39:x39 = .bool false:=hR 39 x39 rfl
           have r40:x40 = .bool false:=hR 40 x40 rfl
           have r41:x41 = .bool false:=hR 41 x41 rfl
           have r42:x42 = .bool false:=hR 42 x42 rfl
           have r43:x43=undef:=hR 43 x43 rfl
           have r44:x44=undef:=hR 44 x44 rfl
           have r45:x45=undef:=hR 45 x45 rfl
           have r46:x46=undef:=hR 46 x46 rfl
           have r47:x47=undef:=hR 47 x47 rfl
           have r48:x48=undef:=hR 48 x48 rfl
           have r49:x49=undef:=hR 49 x49 rfl
           have r50:x50=undef:=hR 50 x50 rfl
           have r51:x51=undef:=hR 51 x51 rfl
           have r52:x52 = .bool false:=hR 52 x52 rfl
           have r53:x53 = .bool false:=hR 53 x53 rfl
           have r54:x54 = .bool false:=hR 54 x54 rfl
           have r55:x55 = .bool false:=hR 55 x55 rfl
           have r56:x56 = .bool true:=hR 56 x56 rfl
           have r57:x57 = .bool true:=hR 57 x57 rfl
           have r58:x58 = .string ⟨#[]⟩:=hR 58 x58 rfl
           have r59:x59 = .bool false:=hR 59 x59 rfl
           have r60:x60 = .bool false:=hR 60 x60 rfl
           clear hR
           subst r0 r1 r2 r3 r4 r5 r6 r7 r8 r9 r11 r12 r13 r14 r15 r16 r17 r18 r19 r20 r21 r22 r23 r24 r25 r26 r27 r28 r29 r30 r31 r32 r33 r34 r35 r36 r37 r38 r39 r40 r41 r42 r43 r44 r45 r46 r47 r48 r49 r50 r51 r52 r53 r54 r55 r56 r57 r58 r59 r60
           have HB9:=Bx.mk (HB3.out.trans (hb.mono HB3.out.size))
           clear hb hln hrs hud hrm hsm HRJ HI
           simp only [puts,List.take_succ_cons,List.take_zero,List.drop_succ_cons,List.drop_zero,List.map_cons,List.map_nil,List.zip_cons_cons,List.zip_nil_right,List.foldl_cons,List.foldl_nil]
           go_wp2_with fail
           go_meet
           exact ⟨rfl,HB9⟩
      case rest =>
      obtain ⟨rfl,HB9⟩:=hcut
      have HI9:=Bx.mk (HI.out.later HB9.out)
      have hi16:=HI16.out.1
      clear HB9 HB3 hln hrs hud hrm hsm HRJ HI m1 m2 m3 e1 d0 d1 s1
      go_wp2_with fail
      go_roundw
      case rel=>exact ⟨i+1,jp',pp',_,rc',L',by have:=HI16.out;omega,rfl,rfl,by go_num,HI9⟩
      case measure=>have:=HI16.out;simp [intOf];omega
  · obtain rfl:i=ln:=by omega
    have t0:decide ((i:Int)<(i:Int))=false:=by simp
    have HB:=Bx.mk (HB1.out.trans (HI.out.bel.mono HB1.out.size))
    clear HI
    go_wp2_with fail
    go_ret
    exact ⟨rfl,HB.out⟩
end Go.Proofs.YtajhkncolbgkbaaDoor
end
