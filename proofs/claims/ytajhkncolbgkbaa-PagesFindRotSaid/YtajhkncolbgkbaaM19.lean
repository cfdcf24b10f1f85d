/- Psw, Pl2, Pro: joined by program, for one claim. -/
import Derived.Test.YtajhkncolbgkbaaM16
import Derived.Test.YtajhkncolbgkbaaM17
import Derived.Test.YtajhkncolbgkbaaM15
import Derived.Test.YtajhkncolbgkbaaM14
import Derived.Test.YtajhkncolbgkbaaM18
import Derived.Test.YtajhkncolbgkbaaM8
import Derived.Test.YtajhkncolbgkbaaM9
import Derived.Test.YtajhkncolbgkbaaM10
set_option linter.unusedVariables false
set_option linter.unusedSimpArgs false
namespace Go.Proofs.Ytajhkncolbgkbaa
section
open Go.RowKit Go.Sort Go.Maps
structure St (B:Nat) (W:World) (dp g mb cap pp m:Nat) (d:Dk) (N:Nat) (bv:Value) (cl:Bool):Prop where
 dk:DkIs W dp g mb cap m d
 ps:PS W pp dp N bv cl
 ne : ¬In3 dp g mb pp
 lo : ∀ k,(k=pp∨In3 dp g mb k)→B≤k
theorem St.later {B:Nat} {W W':World} {dp g mb cap pp m:Nat} {d:Dk} {N:Nat} {bv:Value} {cl:Bool} (h:St B W dp g mb cap pp m d N bv cl) (hb:Below W.heap.size W W'):St B W' dp g mb cap pp m d N bv cl :=
 ⟨h.dk.later hb,h.ps.later hb,h.ne,h.lo⟩
theorem St.write {B:Nat} {W:World} {dp g mb cap pp m:Nat} {d:Dk} {N:Nat} {bv:Value} (h:St B W dp g mb cap pp m d N bv false) (hm:m+40<1000000) (hN:N<1073741824) (a:Option Addr) (c:Nat) (L:List (Nat × List Int)) (hL:BatchOk d.p.length L) (hs:SlP W a (L.map fun x=>((x.1:Int),x.2))) {d':Dk} {er:Int} (hr:d.run (stepsP (N+1) L)=(d',er)) (hB:B≤W.heap.size) :
 Calls Try.prog 24 #[.pointer (some ⟨pp,0,none⟩),.slice a L.length c] W fun e w'=>e = .returned (.int .i64 er)∧St B w' dp g mb cap pp (m+40) d' (if er=0 then N+1 else N) bv (decide (er ≠ 0))∧Below B W w':=by
 refine (pwrite_ok W pp dp N g mb cap m bv d h.ps h.dk h.ne hm hN a c L hL hs).mono ?_
 intro e w' hp
 unfold WrPost at hp
 rw [hr] at hp
 obtain ⟨h1,h2,h3,h4⟩:=hp
 exact ⟨h1,⟨h3,h2,h.ne,h.lo⟩,h4.below hB fun k hk hS=>by have:=h.lo k hS;omega⟩
theorem St.read {B:Nat} {W:World} {dp g mb cap pp m:Nat} {d:Dk} {N:Nat} {bv:Value} {cl:Bool} (h:St B W dp g mb cap pp m d N bv cl) (i:Int) (hi : -9223372036854775808≤i∧i≤9223372036854775807) {s:List Int} {er:Int} (hr:readP d cl i=(s,er)) :
 Calls Try.prog 21 #[.pointer (some ⟨pp,0,none⟩),.int .i64 i] W fun e w'=>e = .returned (.tuple #[.string (strOfNums s),.int .i64 er])∧Below W.heap.size W w':=by
 have:=pread_any W pp dp N g mb cap m bv cl d h.ps h.dk i hi
 rw [hr] at this
 exact this
theorem St.len {B:Nat} {W:World} {dp g mb cap pp m:Nat} {d:Dk} {N:Nat} {bv:Value} {cl:Bool} (h:St B W dp g mb cap pp m d N bv cl) {k:Int} (hk:(d.p.length:Int) - 17=k) :
 Calls Try.prog 18 #[.pointer (some ⟨pp,0,none⟩)] W fun e w'=>e = .returned (.int .i64 k)∧W=w':=by
 have:=plen_any W pp dp N g mb cap m bv cl d h.ps h.dk
 rwa [hk] at this
theorem St.refuse {B:Nat} {W:World} {dp g mb cap pp m:Nat} {d:Dk} {N:Nat} {bv:Value} {cl:Bool} (h:St B W dp g mb cap pp m d N bv cl) (a:Option Addr) (c:Nat) (l:List (Int × List Int)) (hl:l.length≤1000) (hs:SlP W a l) (hw64 : ∀ x∈l,(-9223372036854775808≤x.1∧x.1≤9223372036854775807)∧x.2.length≤10000)
 {er:Int} (hr:chkV cl N ((d.p.length:Int) - 17) l=er) (hne:er ≠ 0) :
 Calls Try.prog 24 #[.pointer (some ⟨pp,0,none⟩),.slice a l.length c] W fun e w'=>e = .returned (.int .i64 er)∧Below W.heap.size W w':=by
 have:=pwrite_bad W pp dp N g mb cap m bv cl d h.ps h.dk a c l hl hs hw64 (by rw [hr];exact hne)
 rw [hr] at this
 exact this
theorem St.disk {B:Nat} {W W':World} {dp g mb cap pp m m':Nat} {d d':Dk} {N:Nat} {bv:Value} {cl:Bool} (h:St B W dp g mb cap pp m d N bv cl) (hd:DkIs W' dp g mb cap m' d') (hc:Chg (In3 dp g mb) W W'):St B W' dp g mb cap pp m' d' N bv cl :=
 ⟨hd,Bk.chg h.ps hc h.ne,h.ne,h.lo⟩
theorem St.below {B:Nat} {W W':World} {dp g mb cap pp m:Nat} {d:Dk} {N:Nat} {bv:Value} {cl:Bool} (h:St B W dp g mb cap pp m d N bv cl) (hc:Chg (In3 dp g mb) W W') (hB:B≤W.heap.size):Below B W W' :=
 hc.below hB fun k hk hS=>by have:=h.lo k (.inr hS);omega
theorem St.open_ {B:Nat} {W:World} {dp g mb cap m:Nat} {d:Dk} (hd:DkIs W dp g mb cap m d) (hlo : ∀ k,In3 dp g mb k→B≤k) (h17:17<d.p.length) (ho:d.off=false) (hm:m+20<1000000) {d':Dk} (hr:d.run (replayP (nowI d))=(d',0)) (hB:B≤W.heap.size) :
 Calls Try.prog 17 #[.pointer (some ⟨dp,0,none⟩)] W fun e w' => ∃ pp bv,e = .returned (.tuple #[.pointer (some ⟨pp,0,none⟩),.int .i64 0])∧St B w' dp g mb cap pp (m+20) d' (mxP (nowI d)) bv false∧Own w' W.heap.size 3 .i64 bv (ints64 (badP (imgR (nowI d)) (d.p.length - 17)))∧W.heap.size≤pp∧Chg (In3 dp g mb) W w':=by
 refine (popen_on W dp g mb cap m d hd h17 ho hm).mono ?_
 intro e w' hp
 unfold OpPost at hp
 rw [hr] at hp
 obtain ⟨h1,h2,⟨h3,_⟩ | ⟨_,pp,bv,h4,h5,h6,h7⟩⟩:=hp
 · exact absurd rfl h3
 · have hlt:=hd.lt
   exact ⟨pp,bv,h4,⟨h1,h6,fun h=>by rcases h with rfl | rfl | rfl <;> omega,fun k hk=>by
    rcases hk with rfl | hk
    · omega
    · exact hlo k hk⟩,h7,h5,h2⟩
theorem slP_two {W:World} (b:Nat) (x y:Int) (s t:List Int) (ty:TypeId) (h:W.heap[b]? = some (.cells #[.int .i64 x,.string (strOfNums s),.int .i64 y,.string (strOfNums t)] ty (0,0))):SlP W (some ⟨b,0,none⟩) [(x,s),(y,t)]:=fun i z hz=>by
 have hc : ∀ j v,(#[Value.int .i64 x,.string (strOfNums s),.int .i64 y,.string (strOfNums t)]:Array Value)[j]? = some v→W.cell? ⟨b,j,none⟩=some v:=fun j v hv=>Bk.cell (show Bk W b _ ty from h) j hv
 match i,hz with
 | 0, hz =>
   obtain rfl:=Option.some.inj hz
   exact ⟨b,0,rfl,hc 0 _ rfl,hc 1 _ rfl⟩
 | 1, hz =>
   obtain rfl:=Option.some.inj hz
   exact ⟨b,0,rfl,hc 2 _ rfl,hc 3 _ rfl⟩
theorem slP_one {W:World} (b:Nat) (x:Int) (s:List Int) (ty:TypeId) (h:W.heap[b]? = some (.cells #[.int .i64 x,.string (strOfNums s)] ty (0,0))):SlP W (some ⟨b,0,none⟩) [(x,s)]:=fun i z hz=>by
 have hc : ∀ j v,(#[Value.int .i64 x,.string (strOfNums s)]:Array Value)[j]? = some v→W.cell? ⟨b,j,none⟩=some v:=fun j v hv=>Bk.cell (show Bk W b _ ty from h) j hv
 match i,hz with
 | 0, hz =>
   obtain rfl:=Option.some.inj hz
   exact ⟨b,0,rfl,hc 0 _ rfl,hc 1 _ rfl⟩
set_option maxRecDepth 100000 in
set_option maxHeartbeats 4000000 in
theorem sanity14_true (w:World):Calls Try.prog 7 #[] w fun e w'=>e = .returned (.bool true)∧Below w.heap.size w w':=by
 have hnew:=Bx.mk (new_ok w 20 (by decide) (by decide))
 have hfa:Bx (∀ W,Calls Try.prog 22 #[.int .u8 97,.int .i64 116] W fun e w'=>e = .returned (.string (strOfNums sa))∧Below W.heap.size W w'):=⟨fun W=>full_any 97 (by omega) 116 (by omega) W⟩
 have hfb:Bx (∀ W,Calls Try.prog 22 #[.int .u8 98,.int .i64 116] W fun e w'=>e = .returned (.string (strOfNums sb))∧Below W.heap.size W w'):=⟨fun W=>full_any 98 (by omega) 116 (by omega) W⟩
 have hfx:Bx (∀ W,Calls Try.prog 22 #[.int .u8 120,.int .i64 116] W fun e w'=>e = .returned (.string (strOfNums sx))∧Below W.heap.size W w'):=⟨fun W=>full_any 120 (by omega) 116 (by omega) W⟩
 have hf0:Bx (∀ W,Calls Try.prog 22 #[.int .u8 0,.int .i64 116] W fun e w'=>e = .returned (.string (strOfNums (zerosP 116)))∧Below W.heap.size W w'):=⟨fun W=>full_any 0 (by omega) 116 (by omega) W⟩
 have hwa:Bx (∀ (i:Int) W,Calls Try.prog 29 #[.int .i64 i,.int .u8 97] W fun e w'=>e = .returned (.agg #[.int .i64 i,.string (strOfNums sa)])∧Below W.heap.size W w'):=⟨fun i W=>lwrite_any i 97 (by omega) W⟩
 have hwb:Bx (∀ (i:Int) W,Calls Try.prog 29 #[.int .i64 i,.int .u8 98] W fun e w'=>e = .returned (.agg #[.int .i64 i,.string (strOfNums sb)])∧Below W.heap.size W w'):=⟨fun i W=>lwrite_any i 98 (by omega) W⟩
 go_enter Try.func7,Try.ntmps7
 go_upto_region 4 with (go_at_call 14;refine hnew.out.mono ?_;rintro _ w1 ⟨dp,g,mb,rfl,hd1,l1,l2,l3,hb1⟩)
 have hlo : ∀ k,In3 dp g mb k→w.heap.size≤k:=fun k hk=>by rcases hk with rfl | rfl | rfl <;> assumption
 have HLO:=Bx.mk hlo
 have hop:=Bx.mk (St.open_ hd1 hlo (by rw [show (mkDk 20).p.length=20 from sn0.2.1];decide) sn0.1 (by decide) (d':=sd0) (by
  have h0:replayP (nowI (mkDk 20))=[]:=by unfold replayP;rw [show targetsP (nowI (mkDk 20))=[] from sn0.2.2.1];rfl
  rw [h0];rfl) hb1.size)
 rw [show mxP (nowI (mkDk 20))=0 from sn0.2.2.2.1] at hop
 have HB1:=Bx.mk hb1
 clear hd1 hb1 l1 l2 l3 hlo hnew
 go_upto_region 7 with (go_at_call 17;refine hop.out.mono ?_;rintro _ w2 ⟨pp,bv,rfl,hst2,-,-,hc2⟩)
 have HS2:=Bx.mk hst2
 have HB2:=Bx.mk (HB1.out.trans (hc2.below HB1.out.size fun k hk hS=>by have:=HLO.out k hS;omega))
 clear hst2 hc2 hop
 have hr:=Bx.mk (HS2.out.read 2 (by omega) sn1)
 go_upto_region 8 with (go_at_call 21;refine hr.out.mono ?_;rintro _ w3 ⟨rfl,hb3⟩)
 have HS3:=Bx.mk (HS2.out.later hb3)
 have HB3:=Bx.mk (HB2.out.trans (hb3.mono HB2.out.size))
 clear hb3 hr HS2 HB2 HB1
 go_wp2_with fail
 refine (hwa.out 0 _).mono ?_
 rintro _ w4 ⟨rfl,hb4⟩
 have HS4:=Bx.mk (HS3.out.later hb4)
 have HB4:=Bx.mk (HB3.out.trans (hb4.mono HB3.out.size))
 clear hb4 HS3 HB3
 go_wp2_with fail
 refine (hwb.out 2 _).mono ?_
 rintro _ w5 ⟨rfl,hb5⟩
 have HS5:=Bx.mk (HS4.out.later hb5)
 have HB5:=Bx.mk (HB4.out.trans (hb5.mono HB4.out.size))
 clear hb5 HS4 HB4
 have hb6:Below w5.heap.size w5 (w5.alloc (.cells #[.int .i64 0,.string (strOfNums sa),.int .i64 2,.string (strOfNums sb)] 69)):=(Below.refl _ _).alloc (Nat.le_refl _) _
 have hwt:=Bx.mk ((HS5.out.later hb6).write (by decide) (by decide) (some ⟨w5.heap.size,0,none⟩) 2 sL1 (by rw [sn0.2.1];exact sn_b1) (slP_two w5.heap.size 0 2 sa sb _ (heap_alloc_new _ _)) (show sd0.run (stepsP (0+1) sL1)=(sd1,0) from Prod.ext rfl sn2.1) (Nat.le_trans HB5.out.size hb6.size))
 have hb6z:=Bx.mk hb6
 clear hb6
 go_upto_region 9 with (go_at_call 24;refine hwt.out.mono ?_;rintro _ w7 ⟨rfl,hs7,hb7⟩)
 have HS7:=Bx.mk (show St w.heap.size w7 dp g mb 20 pp (0+20+40) sd1 1 bv false from hs7)
 have HB7:=Bx.mk ((HB5.out.trans (hb6z.out.mono HB5.out.size)).trans hb7)
 clear hs7 hb7 hwt hb6z HS5 HB5
 have hr:=Bx.mk (HS7.out.read 2 (by omega) sn3)
 go_upto_region 10 with (go_at_call 21;refine hr.out.mono ?_;rintro _ w8 ⟨rfl,hb8⟩)
 have HS8:=Bx.mk (HS7.out.later hb8)
 have HB8:=Bx.mk (HB7.out.trans (hb8.mono HB7.out.size))
 clear hb8 hr HS7 HB7
 have hrf:=Bx.mk (HS8.out.refuse none 0 [] (by decide) (fun i x hx=>by simp at hx) (fun x hx=>by cases hx) (er:=1) (by rw [sn2.2.2];exact sn_c0) (by decide))
 go_upto_region 11 with (go_at_call 24;refine hrf.out.mono ?_;rintro _ w9 ⟨rfl,hb9⟩)
 have HS9:=Bx.mk (HS8.out.later hb9)
 have HB9:=Bx.mk (HB8.out.trans (hb9.mono HB8.out.size))
 clear hb9 hrf HS8 HB8
 go_wp2_with fail
 refine (hwa.out 3 _).mono ?_
 rintro _ w10 ⟨rfl,hb10⟩
 have hb11:Below w10.heap.size w10 (w10.alloc (.cells #[.int .i64 3,.string (strOfNums sa)] 69)):=(Below.refl _ _).alloc (Nat.le_refl _) _
 have hb12:=hb10.trans (hb11.mono hb10.size)
 have HS11:=Bx.mk (HS9.out.later hb12)
 have HB11:=Bx.mk (HB9.out.trans (hb12.mono HB9.out.size))
 have hrf:=Bx.mk (HS11.out.refuse (some ⟨w10.heap.size,0,none⟩) 1 [(3,sa)] (by decide) (slP_one w10.heap.size 3 sa _ (heap_alloc_new _ _)) (fun x hx=>by rw [List.mem_singleton] at hx;subst hx;exact ⟨by omega,by show (116:Nat)≤10000;omega⟩) (er:=1) (by rw [sn2.2.2];exact sn_c3) (by decide))
 clear hb10 hb11 hb12 HS9 HB9
 go_upto_region 12 with (go_at_call 24;refine hrf.out.mono ?_;rintro _ w12 ⟨rfl,hb12⟩)
 have HS12:=Bx.mk (HS11.out.later hb12)
 have HB12:=Bx.mk (HB11.out.trans (hb12.mono HB11.out.size))
 clear hb12 hrf HS11 HB11
 go_wp2_with fail
 refine (HS12.out.len (k:=3) (by rw [sn2.2.2];rfl)).mono ?_
 rintro _ _ ⟨rfl,rfl⟩
 go_wp2_with fail
 refine (pnum_any _ _ _ _ _ _ HS12.out.ps).mono ?_
 rintro _ _ ⟨rfl,rfl⟩
 go_wp2_with fail
 refine (hf0.out _).mono ?_
 rintro _ w13 ⟨rfl,hb13⟩
 have HS13:=Bx.mk (HS12.out.later hb13)
 have HB13:=Bx.mk (HB12.out.trans (hb13.mono HB12.out.size))
 clear hb13 HS12 HB12
 go_wp2_with fail
 refine (hfb.out _).mono ?_
 rintro _ w14 ⟨rfl,hb14⟩
 have HS14:=Bx.mk (HS13.out.later hb14)
 have HB14:=Bx.mk (HB13.out.trans (hb14.mono HB13.out.size))
 clear hb14 HS13 HB13
 go_upto_region 13 with fail
 have htr:=Bx.mk (trip_any w14 dp g mb 20 (0+20+40) sd1 HS14.out.dk 2 (by omega))
 go_upto_region 14 with (go_at_call 15;refine htr.out.mono ?_;rintro _ w15 ⟨rfl,hd15,hc15⟩)
 have HS15:=Bx.mk (show St w.heap.size w15 dp g mb 20 pp (0+20+40) sd2 1 bv false from HS14.out.disk hd15 (DkIs.chgP hc15))
 have HB15:=Bx.mk (HB14.out.trans (HS14.out.below (DkIs.chgP hc15) HB14.out.size))
 clear hd15 hc15 htr HS14 HB14
 go_wp2_with fail
 refine (hwb.out 0 _).mono ?_
 rintro _ w16 ⟨rfl,hb16⟩
 have hb17:Below w16.heap.size w16 (w16.alloc (.cells #[.int .i64 0,.string (strOfNums sb)] 69)):=(Below.refl _ _).alloc (Nat.le_refl _) _
 have hb18:=hb16.trans (hb17.mono hb16.size)
 have HS17:=Bx.mk (HS15.out.later hb18)
 have HB17:=Bx.mk (HB15.out.trans (hb18.mono HB15.out.size))
 have hwt:=Bx.mk (HS17.out.write (by decide) (by decide) (some ⟨w16.heap.size,0,none⟩) 1 sL2 (by rw [sn4.2.1];exact sn_b2) (slP_one w16.heap.size 0 sb _ (heap_alloc_new _ _)) (show sd2.run (stepsP (1+1) sL2)=(sd3,20) from Prod.ext rfl sn4.1) HB17.out.size)
 clear hb16 hb17 hb18 HS15 HB15
 go_upto_region 15 with (go_at_call 24;refine hwt.out.mono ?_;rintro _ w19 ⟨rfl,hs19,hb19⟩)
 have HS19:=Bx.mk (show St w.heap.size w19 dp g mb 20 pp (0+20+40+40) sd3 1 bv true from hs19)
 have HB19:=Bx.mk (HB17.out.trans hb19)
 clear hs19 hb19 hwt HS17 HB17
 have hr:=Bx.mk (HS19.out.read 0 (by omega) sn5)
 go_upto_region 16 with (go_at_call 21;refine hr.out.mono ?_;rintro _ w20 ⟨rfl,hb20⟩)
 have HS20:=Bx.mk (HS19.out.later hb20)
 have HB20:=Bx.mk (HB19.out.trans (hb20.mono HB19.out.size))
 clear hb20 hr HS19 HB19
 have hb21:Below w20.heap.size w20 (w20.alloc (.cells #[.int .i64 0,.int .i64 0,.int .i64 0] 3)):=(Below.refl _ _).alloc (Nat.le_refl _) _
 have HS21:=Bx.mk (HS20.out.later hb21)
 have HB21:=Bx.mk (HB20.out.trans (hb21.mono HB20.out.size))
 have hsl:Sl (w20.alloc (.cells #[.int .i64 0,.int .i64 0,.int .i64 0] 3)) .i64 (some ⟨w20.heap.size,0,none⟩) [0,0,0]:=fun i x hx=>⟨_,0,rfl,by
  match i,hx with
  | 0,hx=>obtain rfl:=Option.some.inj hx;exact cells_new _ _ _ _ _ rfl
  | 1,hx=>obtain rfl:=Option.some.inj hx;exact cells_new _ _ _ _ _ rfl
  | 2,hx=>obtain rfl:=Option.some.inj hx;exact cells_new _ _ _ _ _ rfl⟩
 have hmt:=Bx.mk (mount_any _ dp g mb 20 _ sd3 HS21.out.dk (some ⟨w20.heap.size,0,none⟩) 3 [0,0,0] (by decide) hsl (fun b o e _ h3=>by
  simp only [Option.some.injEq,Addr.mk.injEq,and_true] at e
  have h1:=HS20.out.dk.lt
  rcases h3 with h3 | h3 | h3 <;> omega))
 clear hb21 hsl HS20 HB20
 go_upto_region 17 with (go_at_call 30;refine hmt.out.mono ?_;rintro _ w22 ⟨rfl,hd22,hc22⟩)
 have hd4:DkIs w22 dp g mb 20 (0+20+40+40) sd4:=hd22
 have HB22:=Bx.mk (HB21.out.trans (HS21.out.below hc22 HB21.out.size))
 have hop:=Bx.mk (St.open_ hd4 HLO.out (by rw [sn6.2.1];decide) sn6.1 (by decide) (d':=sd5) (Prod.ext rfl sn6.2.2.1) HB22.out.size)
 rw [sn6.2.2.2] at hop
 clear hd22 hd4 hc22 HS21 HB21 hmt
 go_upto_region 20 with (go_at_call 17;refine hop.out.mono ?_;rintro _ w23 ⟨pq,bw,rfl,hst23,-,-,hc23⟩)
 have HS23:=Bx.mk hst23
 have HB23:=Bx.mk (HB22.out.trans (hc23.below HB22.out.size fun k hk hS=>by have:=HLO.out k hS;omega))
 clear hst23 hc23 hop HB22
 have hr:=Bx.mk (HS23.out.read 0 (by omega) sn7)
 go_upto_region 21 with (go_at_call 21;refine hr.out.mono ?_;rintro _ w24 ⟨rfl,hb24⟩)
 have HS24:=Bx.mk (HS23.out.later hb24)
 have HB24:=Bx.mk (HB23.out.trans (hb24.mono HB23.out.size))
 clear hb24 hr HS23 HB23
 go_wp2_with fail
 refine (hfa.out _).mono ?_
 rintro _ w25 ⟨rfl,hb25⟩
 have HS25:=Bx.mk (HS24.out.later hb25)
 have HB25:=Bx.mk (HB24.out.trans (hb25.mono HB24.out.size))
 clear hb25 HS24 HB24
 have hro:=rot_any w25 dp g mb 20 _ sd5 HS25.out.dk 19 77
 rw [show sd5.rot 19 77=(sd6,0) from Prod.ext rfl sn8.1] at hro
 replace hro:=Bx.mk hro
 go_upto_region 23 with (go_at_call 27;refine hro.out.mono ?_;rintro _ w26 ⟨rfl,hd26,hc26⟩)
 have HS26:=Bx.mk (HS25.out.disk hd26 hc26)
 have HB26:=Bx.mk (HB25.out.trans (HS25.out.below hc26 HB25.out.size))
 clear hd26 hc26 hro HS25 HB25
 have hr:=Bx.mk (HS26.out.read 2 (by omega) sn8.2)
 go_upto_region 24 with (go_at_call 21;refine hr.out.mono ?_;rintro _ w27 ⟨rfl,hb27⟩)
 have HS27:=Bx.mk (HS26.out.later hb27)
 have HB27:=Bx.mk (HB26.out.trans (hb27.mono HB26.out.size))
 clear hb27 hr HS26 HB26
 have hop:=Bx.mk (St.open_ HS27.out.dk HLO.out (by rw [sn9.2.1];decide) sn9.1 (by decide) (d':=sd7) (Prod.ext rfl sn9.2.2.1) HB27.out.size)
 rw [show sd6.p.length - 17=3 by rw [sn9.2.1],sn9.2.2.2] at hop
 go_upto_region 27 with (go_at_call 17;refine hop.out.mono ?_;rintro _ w28 ⟨ps,bx,rfl,hst28,hbad28,-,hc28⟩)
 have HS28:=Bx.mk hst28
 have HB28:=Bx.mk (HB27.out.trans (hc28.below HB27.out.size fun k hk hS=>by have:=HLO.out k hS;omega))
 obtain ⟨ba,bc,rfl,hbs⟩:=hbad28.form
 have HBS:=Bx.mk hbs
 clear hst28 hc28 hop hbad28 hbs HS27 HB27
 have hr:=Bx.mk (HS28.out.read 2 (by omega) sn10)
 go_upto_region 28 with (go_at_call 21;refine hr.out.mono ?_;rintro _ w29 ⟨rfl,hb29⟩)
 have HS29:=Bx.mk (HS28.out.later hb29)
 have HB29:=Bx.mk (HB28.out.trans (hb29.mono HB28.out.size))
 clear hb29 hr HS28 HB28
 go_wp2_with fail
 refine (hfb.out _).mono ?_
 rintro _ w30 ⟨rfl,hb30⟩
 have HS30:=Bx.mk (HS29.out.later hb30)
 have HB30:=Bx.mk (HB29.out.trans (hb30.mono HB29.out.size))
 clear hb30 HS29 HB29
 have hpb:=Bx.mk (pbad_any w30 ps dp _ ba bc [] false HS30.out.ps (fun i x hx=>by simp [ints64] at hx) (by decide))
 go_upto_region 29 with (go_at_call 20;refine hpb.out.mono ?_;rintro _ w31 ⟨v31,rfl,hown31,hb31⟩;obtain ⟨a31,c31,rfl,-⟩:=hown31.form)
 have HB31:=Bx.mk (HB30.out.trans (hb31.mono HB30.out.size))
 clear hb31 hown31 hpb HS30 HB30 HBS
 go_wp2_with fail
 refine (hfx.out _).mono ?_
 rintro _ w32 ⟨rfl,hb32⟩
 have HB32:=Bx.mk (HB31.out.trans (hb32.mono HB31.out.size))
 clear hb32 HB31
 have hse:=seal_any 7 sx sx_byts.2 (by rw [sx_byts.1];decide) w32
 rw [sn_x.1] at hse
 replace hse:=Bx.mk hse
 go_wp2_with fail
 refine hse.out.mono ?_
 rintro _ w33 ⟨rfl,hb33⟩
 have HB33:=Bx.mk (HB32.out.trans (hb33.mono HB32.out.size))
 have hus:=unseal_any (sealP 7 sx) (byts_seal sx_byts.2) (by rw [sn_x.2.1];decide) w33
 rw [sn_x.2.2] at hus
 replace hus:=Bx.mk hus
 clear hb33 HB32 hse
 go_upto_region 30 with (go_at_call 8;refine hus.out.mono ?_;rintro _ w34 ⟨rfl,hb34⟩)
 have HB34:=Bx.mk (HB33.out.trans (hb34.mono HB33.out.size))
 clear hb34 hus HB33
 have hc1:=crc_any [49,50,51,52,53,54,55,56,57] (by intro x hx;simp only [List.mem_cons,List.not_mem_nil,or_false] at hx;omega) (by decide) w34
 rw [sn_crc.1,show strOfNums [49,50,51,52,53,54,55,56,57]=(⟨#[49,50,51,52,53,54,55,56,57]⟩:ByteArray) by rfl] at hc1
 replace hc1:=Bx.mk hc1
 go_wp2_with fail
 refine hc1.out.mono ?_
 rintro _ w35 ⟨rfl,hb35⟩
 have HB35:=Bx.mk (HB34.out.trans (hb35.mono HB34.out.size))
 have hc2:=crc_any [] (by intro x hx;cases hx) (by decide) w35
 rw [sn_crc.2,show strOfNums []=(⟨#[]⟩:ByteArray) by rfl] at hc2
 replace hc2:=Bx.mk hc2
 clear hb35 hc1 HB34
 go_wp2_with fail
 refine hc2.out.mono ?_
 rintro _ w36 ⟨rfl,hb36⟩
 have HB36:=Bx.mk (HB35.out.trans (hb36.mono HB35.out.size))
 clear hb36 hc2 HB35
 go_wp2_with fail
 refine (hfx.out _).mono ?_
 rintro _ w37 ⟨rfl,hb37⟩
 have HB37:=Bx.mk (HB36.out.trans (hb37.mono HB36.out.size))
 clear hb37 HB36
 go_wp2_with fail
 go_ret
 exact ⟨rfl,HB37.out⟩
end
section
open Go.RowKit Go.Sort Go.Maps
theorem nowI_mk (n:Nat):nowI (mkDk n)=List.replicate n (zerosP 128):=by
 unfold nowI mkDk
 simp only [List.map_replicate]
 rfl
theorem targets_mk (n:Nat):targetsP (List.replicate n (zerosP 128))=[]:=by
 cases n with
 | zero=>rfl
 | succ n=>exact targets_zero (by simp [List.replicate_succ])
theorem replay_mk (n:Nat):replayP (nowI (mkDk n))=[]:=by
 rw [nowI_mk]
 unfold replayP;rw [targets_mk];rfl
theorem zeros_numOf:numOf (zerosP 128)=0:=by unfold numOf;rw [if_pos zeros_good,zeros_num]
theorem mx_mk (n:Nat):mxP (List.replicate n (zerosP 128))=0:=by
 induction n with
 | zero=>rfl
 | succ n ih=>rw [List.replicate_succ',mxP_snoc,ih,zeros_numOf];rfl
end
section
open Go.RowKit Go.Sort Go.Maps
theorem read_zero (n k:Nat) (h:k<n):(mkDk n).read (k:Int)=(zerosP 128,0):=by
 have hl:(mkDk n).p.length=n:=by unfold mkDk;exact List.length_replicate ..
 unfold Dk.read
 rw [if_neg (by show ¬(false=true);decide),if_neg (by unfold Dk.is;rw [hl];simp;omega)]
 rw [show (k:Int).toNat=k by omega]
 unfold mkDk
 simp only
 rw [List.getElem?_replicate,if_pos h];rfl
set_option maxRecDepth 100000 in
set_option maxHeartbeats 1000000 in
theorem rgood_zero (w:World):Calls Try.prog 78 #[.string (strOfNums (zerosP 128))] w fun e w'=>e = .returned (.bool false)∧Below w.heap.size w w':=by
 have hbl:=Bx.mk rblank_any
 generalize strOfNums (zerosP 128)=Z at *
 go_enter Try.func78,Try.ntmps78
 go_wp2_with fail
 refine (hbl.out _).mono ?_
 rintro _ w1 ⟨rfl,hb1⟩
 have HB:=Bx.mk hb1
 clear hb1
 go_wp2_with fail
 go_ret
 exact ⟨rfl,HB.out⟩
set_option maxRecDepth 100000 in
set_option maxHeartbeats 1000000 in
theorem rtargets_zero (b n c:Nat) (w:World) (hn:0<n) (h0:w.cell? ⟨b,0,none⟩=some (.string (strOfNums (zerosP 128)))) :
 Calls Try.prog 66 #[.slice (some ⟨b,0,none⟩) n c] w fun e w'=>e = .returned (.slice none 0 0)∧Below w.heap.size w w':=by
 have hg:=Bx.mk (rgood_zero w)
 have b1:(0:Int)<(n:Int):=by omega
 have b2:(0:Int)≤0:=by omega
 generalize strOfNums (zerosP 128)=Z at *
 go_enter Try.func66,Try.ntmps66
 go_wp2_with fail
 refine hg.out.mono ?_
 rintro _ w1 ⟨rfl,hb1⟩
 have HB:=Bx.mk hb1
 clear hb1 h0
 go_wp2_with fail
 go_ret
 exact ⟨rfl,HB.out⟩
theorem strs_zero_succ (k:Nat):strs (List.replicate k (zerosP 128))++[.string (strOfNums (zerosP 128))]=strs (List.replicate (k+1) (zerosP 128)):=by
 rw [←strs_snoc,List.replicate_succ']
set_option maxRecDepth 100000 in
set_option maxHeartbeats 1000000 in
theorem rread_zero (w:World) (q g cap n:Nat) (hn:n≤120) (h:RkIs w q g cap (mkDk n)) :
 Calls Try.prog 56 #[.pointer (some ⟨q,0,none⟩)] w fun e w' => ∃ v,e = .returned (.tuple #[v,.int .i64 0])∧Ownv w' w.heap.size 9 v (strs (List.replicate n (zerosP 128)))∧Below w.heap.size w w':=by
 have hl:(mkDk n).p.length=n:=by unfold mkDk;exact List.length_replicate ..
 have Hl:Bx (∀ W,Below w.heap.size w W→Calls Try.prog 55 #[.pointer (some ⟨q,0,none⟩)] W fun e w'=>e = .returned (.int .i64 (n:Int))∧W=w'):=⟨fun W hb=>by
  have:=rlen_any W q g cap (mkDk n) (h.later hb)
  rwa [hl] at this⟩
 have Hr:=Bx.mk fun W (hb:Below w.heap.size w W) (k:Nat)=>rread_any W q g cap (mkDk n) (h.later hb) (k:Int)
 have Hz:=Bx.mk fun k (hk:k<n)=>read_zero n k hk
 clear h hl
 go_enter Try.func56,Try.ntmps56
 go_wp2_with fail
 go_loopw [4,5] (fun v4 v5 wr => ∃ (k:Nat) (q4:Value),k≤n∧v5 = .int .i64 k∧q4=v4∧Bx (Ownv wr w.heap.size 9 q4 (strs (List.replicate k (zerosP 128))))∧Bx (Below w.heap.size w wr)) (fun _ i _=>n - (intOf i).toNat)
 case atStart=>exact ⟨0,_,Nat.zero_le _,rfl,rfl,⟨Ownv.nil _ _ _⟩,⟨Below.refl _ _⟩⟩
 case round =>
  obtain ⟨k,q4,hk,rfl,rfl,HO,HW⟩:=hrel
  have hl1:=Bx.mk (Hl.out wr HW.out)
  by_cases hlt:k<n
  · have t0:decide ((k:Int)<(n:Int))=true:=by simp;omega
    have t0b:decide (k<n)=true:=by simpa using hlt
    have hr1:=Hr.out wr HW.out k
    rw [Hz.out k hlt] at hr1
    have hr1:=Bx.mk hr1
    have hsu:=Bx.mk (strs_zero_succ k)
    have hln:(strs (List.replicate k (zerosP 128))).length≤1000000000:=by rw [strs_length,List.length_replicate];omega
    have Hlt:=Bx.mk hlt
    generalize strOfNums (zerosP 128)=Z at *
    generalize strs (List.replicate k (zerosP 128))=zs at *
    clear hlt
    go_wp2_with fail
    refine hl1.out.mono ?_
    rintro _ _ ⟨rfl,rfl⟩
    go_wp2_with fail
    refine hr1.out.mono ?_
    rintro _ _ ⟨rfl,rfl⟩
    have hown:=HO.out
    have hB:=HW.out
    have hle:=hB.size
    clear hl1 HO HW t0 t0b
    go_wp2_with (first
     | (at_builtin
        refine wpList_append_val rfl _ _ 59 rfl 9 (.string ByteArray.empty) 16 (by omega) Try.underlying59 (by kernel_rfl) rfl w.heap.size _ zs rfl (hown.alloc _) (.string Z) rfl ⟨wr.heap.size,0,none⟩ 1 rfl (cell_new _ _ _) hln (le_alloc hle _) ?_
        intro v1 w4 hown1 hg1 _))
    rw [hsu.out] at hown1
    have HO6:=Bx.mk hown1
    have HI6:=Bx.mk ((hB.alloc hle _).grown hg1 (le_alloc hle _) (fun g hg=>(hown.lt g hg).1))
    clear hown1 hg1 hown hB hln hle
    go_roundw
    case rel=>exact ⟨k+1,_,by have:=Hlt.out;omega,by go_num,rfl,HO6,HI6⟩
    case measure=>have:=Hlt.out;simp [intOf];omega
  · obtain rfl:k=n:=by omega
    have t0:decide ((k:Int)<(k:Int))=false:=by simp
    have t0b:decide (k<k)=false:=by simp
    go_wp2_with fail
    refine hl1.out.mono ?_
    rintro _ _ ⟨rfl,rfl⟩
    go_wp2_with fail
    go_ret2
    exact ⟨_,rfl,HO.out,HW.out⟩
set_option maxRecDepth 100000 in
set_option maxHeartbeats 1000000 in
theorem rreplay_zero (w:World) (q g cap n:Nat) (hn0:0<n) (hn:n≤120) (h:RkIs w q g cap (mkDk n)) :
 Calls Try.prog 57 #[.pointer (some ⟨q,0,none⟩)] w fun e w'=>e = .returned (.int .i64 0)∧Below w.heap.size w w':=by
 have Hr:=Bx.mk (rread_zero w q g cap n hn h)
 clear h
 have hlen:(strs (List.replicate n (zerosP 128))).length=n:=by rw [strs_length,List.length_replicate]
 go_enter Try.func57,Try.ntmps57
 go_upto_region 4 with (go_at_call 56;refine Hr.out.mono ?_;rintro _ w1 ⟨v,rfl,hown,hb1⟩)
 obtain ⟨b,c,rfl,hs,_,_⟩:=hown.form1 (by rw [hlen];exact hn0)
 rw [hlen]
 have hc0:w1.cell? ⟨b,0,none⟩=some (.string (strOfNums (zerosP 128))):=by
  obtain ⟨b',off,e,hc⟩:=hs 0 _ (strs_at (show (List.replicate n (zerosP 128))[0]? = some (zerosP 128) by rw [List.getElem?_replicate,if_pos hn0]))
  simp only [Option.some.injEq,Addr.mk.injEq,and_true] at e
  obtain ⟨rfl,rfl⟩:=e
  exact hc
 have hT:=Bx.mk (rtargets_zero b n c w1 hn0 hc0)
 have HB1:=Bx.mk hb1
 clear hb1 hown hs hc0 hlen Hr
 go_upto_region 5 with (go_at_call 66;refine hT.out.mono ?_;rintro _ w2 ⟨rfl,hb2⟩)
 have HB2:=Bx.mk (HB1.out.trans (hb2.mono HB1.out.size))
 clear hb2 hT HB1
 go_wp2_with fail
 go_loopw [6] (fun v6 wr=>v6 = .int .i64 0∧wr=w2) (fun i _=>0)
 case atStart=>exact ⟨rfl,rfl⟩
 case round =>
  obtain ⟨rfl,rfl⟩:=hrel
  have t0:decide ((0:Int)<0)=false:=by decide
  have t1:decide ((0:Int) > 0)=false:=by decide
  go_wp2_with fail
  go_ret
  exact ⟨rfl,HB2.out⟩
set_option maxRecDepth 100000 in
set_option maxHeartbeats 2000000 in
theorem ropen_zero (w:World) (q g cap n:Nat) (hn0:17<n) (hn:n≤120) (h:RkIs w q g cap (mkDk n)) :
 Calls Try.prog 43 #[.pointer (some ⟨q,0,none⟩)] w fun e w' => ∃ qq,e = .returned (.tuple #[.pointer (some ⟨qq,0,none⟩),.int .i64 0])∧Below w.heap.size w w':=by
 have hl:(mkDk n).p.length=n:=by unfold mkDk;exact List.length_replicate ..
 have Hl:=rlen_any w q g cap (mkDk n) h
 rw [hl] at Hl
 have Hl:=Bx.mk Hl
 have Hr:=Bx.mk fun W (hb:Below w.heap.size w W)=>rread_zero W q g cap n hn (h.later hb)
 have Hp:=Bx.mk fun W (hb:Below w.heap.size w W)=>rreplay_zero W q g cap n (by omega) hn (h.later hb)
 have hlen:(strs (List.replicate n (zerosP 128))).length=n:=by rw [strs_length,List.length_replicate]
 have HLEN:=Bx.mk hlen
 have hus:=Bx.mk fun W=>runseal_any (zerosP 128) (fun x hx=>by unfold zerosP at hx;rw [List.mem_replicate] at hx;omega) (by decide) W
 rw [show runV (zerosP 128) = .agg #[.int .i64 0,.string (strOfNums (datOf (zerosP 128))),.bool true] by
  unfold runV;rw [zeros_numOf,decide_eq_true zeros_good];rfl] at hus
 have t0:decide ((n:Int)≤17)=false:=by simp;omega
 have t0b:decide (n≤17)=false:=by simp;omega
 clear h hl hlen
 go_enter Try.func43,Try.ntmps43
 go_upto_region 3 with (go_at_call 55;refine Hl.out.mono ?_;rintro _ _ ⟨rfl,rfl⟩)
 have hr1:=Bx.mk (Hr.out w (Below.refl _ _))
 clear t0 t0b Hl
 go_upto_region 6 with (go_at_call 56;refine hr1.out.mono ?_;rintro _ w1 ⟨v1,rfl,hown1,hb1⟩)
 obtain ⟨b1,c1,rfl,hs1,_,hlb1⟩:=hown1.form1 (by rw [HLEN.out];omega)
 rw [HLEN.out]
 have HB1:=Bx.mk hb1
 have HS1:=Bx.mk hs1
 have hp1:=Bx.mk (Hp.out w1 hb1)
 have hlb1:=Bx.mk hlb1
 clear hown1 hb1 hs1 hr1
 go_upto_region 9 with (go_at_call 57;refine hp1.out.mono ?_;rintro _ w2 ⟨rfl,hb2⟩)
 have HB2:=Bx.mk (HB1.out.trans (hb2.mono HB1.out.size))
 have HS2:=Bx.mk (HS1.out.below hb2)
 have hb2s:=Bx.mk hb2.size
 clear hb2 hp1 HB1 HS1
 go_upto_region 10 with fail
 generalize hW:World.alloc w2 _=w3
 have hb3:=bl1 hW
 have kq:Bk w3 w2.heap.size #[.pointer (some ⟨q,0,none⟩),.int .i64 0,.slice none 0 0,.bool false] 109:=bk0 hW rfl
 have HB3:=Bx.mk (HB2.out.trans (hb3.mono HB2.out.size))
 have HS3:=Bx.mk (HS2.out.below hb3)
 have KQ:=Bx.mk kq
 have hr3:=Bx.mk (Hr.out w3 HB3.out)
 obtain ⟨qb,hqb⟩ : ∃ qb,qb=w2.heap.size:=⟨_,rfl⟩
 have HQB:=Bx.mk (show w.heap.size≤qb by rw [hqb];exact HB2.out.size)
 have Hb1:=Bx.mk (show b1<qb by rw [hqb];exact Nat.lt_of_lt_of_le hlb1.out hb2s.out)
 rw [←hqb] at KQ ⊢
 clear hW hb3 kq HB2 HS2 hqb
 go_upto_region 13 with (go_at_call 56;refine hr3.out.mono ?_;rintro _ w4 ⟨v4,rfl,hown4,hb4⟩)
 obtain ⟨b4,c4,rfl,hs4,hgb4,_⟩:=hown4.form1 (by rw [HLEN.out];omega)
 rw [HLEN.out]
 have HB4:=Bx.mk (HB3.out.trans (hb4.mono HB3.out.size))
 have KQ4:=Bx.mk (KQ.out.later hb4)
 have Hb4:=Bx.mk (show qb<b4 from Nat.lt_of_lt_of_le KQ.out.lt hgb4)
 have HS4:Bx (∀ (b:Nat),b=b1∨b=b4→Slv w4 (some ⟨b,0,none⟩) (strs (List.replicate n (zerosP 128)))):=⟨fun b hb=>by
  rcases hb with rfl | rfl
  · exact HS3.out.below hb4
  · exact hs4⟩
 have HAT:Bx (∀ W,Chg (· = qb) w4 W → ∀ (b k:Nat),b=b1∨b=b4→k<n→W.cell? ⟨b,k,none⟩=some (.string (strOfNums (zerosP 128)))):=⟨fun W hc0 b k hbb hk=>by
  obtain ⟨b',off,e,hc⟩:=HS4.out b hbb k _ (strs_at (show (List.replicate n (zerosP 128))[k]? = some (zerosP 128) by rw [List.getElem?_replicate,if_pos hk]))
  simp only [Option.some.injEq,Addr.mk.injEq,and_true] at e
  obtain ⟨rfl,rfl⟩:=e
  rw [Nat.zero_add] at hc
  rw [World.cell?_of_block (hc0.block b (World.block_lt_of_cell? w4 _ hc) (by have h1:=Hb1.out;have h4:=Hb4.out;rcases hbb with rfl | rfl <;> omega))]
  exact hc⟩
 clear hown4 hb4 hs4 hr3 HB3 HS3 KQ Hr Hp HS4
 generalize strOfNums (zerosP 128)=Z at *
 generalize strOfNums (datOf (zerosP 128))=D at *
 have hfd0 : ∀ W:World,(Instr.field 26 (.agg #[.int .i64 0,.string D,.bool true]) 0).run Try.prog W = .ok (.int .i64 0) W:=fun W=>rfl
 have hfd2 : ∀ W:World,(Instr.field 26 (.agg #[.int .i64 0,.string D,.bool true]) 2).run Try.prog W = .ok (.bool true) W:=fun W=>rfl
 go_wp2_with fail
 go_loopw [10] (fun v10 wr => ∃ k:Nat,k≤n∧v10 = .int .i64 k∧Bx (Bk wr qb #[.pointer (some ⟨q,0,none⟩),.int .i64 0,.slice none 0 0,.bool false] 109)∧Bx (Chg (· = qb) w4 wr)) (fun i _=>n - (intOf i).toNat)
 case atStart=>exact ⟨0,Nat.zero_le _,rfl,KQ4,⟨Chg.refl _ _⟩⟩
 case round =>
  obtain ⟨k,hk,rfl,HK,HC⟩:=hrel
  by_cases hlt:k<n
  · have t0:decide ((k:Int)<(n:Int))=true:=by simp;omega
    have t0b:decide (k<n)=true:=by simpa using hlt
    have Hlt:=Bx.mk hlt
    have b1':(0:Int)≤(k:Int):=by omega
    have b2':(k:Int)<(n:Int):=by omega
    have HA:=Bx.mk fun W (hb:Below wr.heap.size wr W) b (hbb:b=b1∨b=b4)=>HAT.out W (HC.out.later hb HC.out.size) b k hbb hlt
    clear hlt
    go_upto_region 16 with fail
    refine wp_region_relT 14 (fun ii v w'=>match ii with
     | 0=>v = .pointer (some ⟨qb,0,none⟩)
     | 1=>v = .pointer (some ⟨qb,0,none⟩)
     | 2=>v = .pointer (some ⟨qb,0,none⟩)
     | 3=>v = .pointer (some ⟨qb,1,none⟩)
     | 4=>v = .int .i64 0
     | 5=>v = .slice (some ⟨b1,0,none⟩) n c1
     | 6=>v = .int .i64 (k:Int)
     | 7=>v = .pointer (some ⟨b1,k,none⟩)
     | 8=>v = .string Z
     | 9=>v = .agg #[.int .i64 0,.string D,.bool true]
     | 10=>v = .int .i64 0
     | 11=>v = .int .i64 0
     | 12=>v = .pointer (some ⟨qb,0,none⟩)
     | _=>v = .pointer (some ⟨qb,1,none⟩)) (by kernel_rfl) (by kernel_rfl) 81 (by kernel_rfl) (by rfl) ?_ ?_ ?_
    · intro ii hi v u1 u2 hb h
      match ii,hi with
      | 0,_=>exact h
      | 1,_=>exact h
      | 2,_=>exact h
      | 3,_=>exact h
      | 4,_=>exact h
      | 5,_=>exact h
      | 6,_=>exact h
      | 7,_=>exact h
      | 8,_=>exact h
      | 9,_=>exact h
      | 10,_=>exact h
      | 11,_=>exact h
      | 12,_=>exact h
      | 13,_=>exact h
    · intro ii o hi ho ρ wx hb hc1 hc2 hc3 hk
      match ii,hi with
      | 0, _ =>
        obtain rfl:=Option.some.inj ho
        have g0:ρ (.tmp 7) = .pointer (some ⟨qb,0,none⟩):=hk 7 (by simp [Op.operands,Call.operands])
        clear hk hb HK HC HAT HA hus HLEN
        go_simp
        exact Below.refl _ _
      | 1, _ =>
        obtain rfl:=Option.some.inj ho
        have g0:ρ (.tmp 7) = .pointer (some ⟨qb,0,none⟩):=hk 7 (by simp [Op.operands,Call.operands])
        clear hk hb HK HC HAT HA hus HLEN
        go_simp
        exact Below.refl _ _
      | 2, _ =>
        obtain rfl:=Option.some.inj ho
        have g0:ρ (.tmp 45) = .pointer (some ⟨qb,0,none⟩):=hk 45 (by simp [Op.operands,Call.operands])
        clear hk hb HK HC HAT HA hus HLEN
        go_simp
        exact Below.refl _ _
      | 3, _ =>
        obtain rfl:=Option.some.inj ho
        have g0:ρ (.tmp 46) = .pointer (some ⟨qb,0,none⟩):=hk 46 (by simp [Op.operands,Call.operands])
        clear hk hb HK HC HAT HA hus HLEN
        go_simp
        exact Below.refl _ _
      | 4, _ =>
        obtain rfl:=Option.some.inj ho
        have g0:ρ (.tmp 47) = .pointer (some ⟨qb,1,none⟩):=hk 47 (by simp [Op.operands,Call.operands])
        have k1:=HK.out.later hb
        have z1:=k1.cell 1 rfl
        clear hk hb HK HC HAT HA hus HLEN
        go_simp
        exact Below.refl _ _
      | 5, _ =>
        obtain rfl:=Option.some.inj ho
        have g0:ρ (.tmp 4) = .slice (some ⟨b1,0,none⟩) n c1:=hk 4 (by simp [Op.operands,Call.operands])
        clear hk hb HK HC HAT HA hus HLEN
        go_simp
        exact Below.refl _ _
      | 6, _ =>
        obtain rfl:=Option.some.inj ho
        have g0:ρ (.tmp 10) = .int .i64 (k:Int):=hk 10 (by simp [Op.operands,Call.operands])
        clear hk hb HK HC HAT HA hus HLEN
        go_simp
        exact Below.refl _ _
      | 7, _ =>
        obtain rfl:=Option.some.inj ho
        have g0:ρ (.tmp 49) = .slice (some ⟨b1,0,none⟩) n c1:=hk 49 (by simp [Op.operands,Call.operands])
        have g1:ρ (.tmp 50) = .int .i64 (k:Int):=hk 50 (by simp [Op.operands,Call.operands])
        clear hk hb HK HC HAT HA hus HLEN
        go_simp
        exact Below.refl _ _
      | 8, _ =>
        obtain rfl:=Option.some.inj ho
        have g0:ρ (.tmp 51) = .pointer (some ⟨b1,k,none⟩):=hk 51 (by simp [Op.operands,Call.operands])
        have z0:=HA.out wx hb b1 (.inl rfl)
        clear hk hb HK HC HAT HA hus HLEN
        go_simp
        exact Below.refl _ _
      | 9, _ =>
        obtain rfl:=Option.some.inj ho
        have g0:ρ (.tmp 52) = .string Z:=hk 52 (by simp [Op.operands,Call.operands])
        have h4:=(hus.out wx)
        have H4:=Bx.mk h4
        clear h4
        clear hk hb HK HC HAT HA hus HLEN
        go_simp
        all_goals exact H4.out
      | 10, _ =>
        obtain rfl:=Option.some.inj ho
        have g0:ρ (.tmp 53) = .agg #[.int .i64 0,.string D,.bool true]:=hk 53 (by simp [Op.operands,Call.operands])
        clear hk hb HK HC HAT HA hus HLEN
        go_simp
        exact Below.refl _ _
      | 11, _ =>
        obtain rfl:=Option.some.inj ho
        have g0:ρ (.tmp 48) = .int .i64 0:=hk 48 (by simp [Op.operands,Call.operands])
        have g1:ρ (.tmp 54) = .int .i64 0:=hk 54 (by simp [Op.operands,Call.operands])
        clear hk hb HK HC HAT HA hus HLEN
        go_simp
        exact Below.refl _ _
      | 12, _ =>
        obtain rfl:=Option.some.inj ho
        have g0:ρ (.tmp 44) = .pointer (some ⟨qb,0,none⟩):=hk 44 (by simp [Op.operands,Call.operands])
        clear hk hb HK HC HAT HA hus HLEN
        go_simp
        exact Below.refl _ _
      | 13, _ =>
        obtain rfl:=Option.some.inj ho
        have g0:ρ (.tmp 56) = .pointer (some ⟨qb,0,none⟩):=hk 56 (by simp [Op.operands,Call.operands])
        clear hk hb HK HC HAT HA hus HLEN
        go_simp
        exact Below.refl _ _
    · intro vs w5 hlen hb hR
      match vs,hlen with
      | [v0, v1, v2, v3, v4, v5, v6, v7, v8, v9, v10, v11, v12, v13], _ =>
        have r0:v0 = .pointer (some ⟨qb,0,none⟩):=hR 0 v0 rfl
        have r1:v1 = .pointer (some ⟨qb,0,none⟩):=hR 1 v1 rfl
        have r2:v2 = .pointer (some ⟨qb,0,none⟩):=hR 2 v2 rfl
        have r3:v3 = .pointer (some ⟨qb,1,none⟩):=hR 3 v3 rfl
        have r4:v4 = .int .i64 0:=hR 4 v4 rfl
        have r5:v5 = .slice (some ⟨b1,0,none⟩) n c1:=hR 5 v5 rfl
        have r6:v6 = .int .i64 (k:Int):=hR 6 v6 rfl
        have r7:v7 = .pointer (some ⟨b1,k,none⟩):=hR 7 v7 rfl
        have r8:v8 = .string Z:=hR 8 v8 rfl
        have r9:v9 = .agg #[.int .i64 0,.string D,.bool true]:=hR 9 v9 rfl
        have r10:v10 = .int .i64 0:=hR 10 v10 rfl
        have r11:v11 = .int .i64 0:=hR 11 v11 rfl
        have r12:v12 = .pointer (some ⟨qb,0,none⟩):=hR 12 v12 rfl
        have r13:v13 = .pointer (some ⟨qb,1,none⟩):=hR 13 v13 rfl
        clear hR
        subst r0 r1 r2 r3 r4 r5 r6 r7 r8 r9 r10 r11 r12 r13
        have kq5:=HK.out.later hb
        have z1:=kq5.cell 1 rfl
        have f1:=kq5.frozen 1
        have KQ6:Bx (Bk (w5.setCell ⟨qb,1,none⟩ (.int .i64 0)) qb #[.pointer (some ⟨q,0,none⟩),.int .i64 0,.slice none 0 0,.bool false] 109):=⟨by simpa using kq5.set 1 (.int .i64 0)⟩
        have hc6:Chg (· = qb) w4 (w5.setCell ⟨qb,1,none⟩ (.int .i64 0)):=(HC.out.later hb HC.out.size).setCell (.inl rfl) _
        have HC6:=Bx.mk hc6
        have x0:=HAT.out _ hc6 b4 k (.inr rfl) Hlt.out
        clear kq5 hb HK HC HA hc6
        simp only [puts,List.take_succ_cons,List.take_zero,List.drop_succ_cons,List.drop_zero,List.map_cons,List.map_nil,List.zip_cons_cons,List.zip_nil_right,List.foldl_cons,List.foldl_nil]
        go_upto_region 17 with fail
        generalize World.setCell w5 _ _=w6 at *
        by_cases h17:17≤k
        · have t1:decide ((k:Int) ≥ 17)=true:=by simp;omega
          have t1b:decide (k ≥ 17)=true:=by simpa using h17
          clear h17
          go_wp2_with fail
          refine (hus.out _).mono ?_
          rintro _ w7 ⟨rfl,hb7⟩
          have KQ7:=Bx.mk (KQ6.out.later hb7)
          have HC7:=Bx.mk (HC6.out.later hb7 HC6.out.size)
          clear hb7 KQ6 HC6 x0
          go_wp2_with fail
          go_roundw
          case rel=>exact ⟨k+1,by have:=Hlt.out;omega,by go_num,KQ7,HC7⟩
          case measure=>have:=Hlt.out;simp [intOf];omega
        · have t1:decide ((k:Int) ≥ 17)=false:=by simp;omega
          have t1b:decide (k ≥ 17)=false:=by simpa using h17
          clear h17 x0
          go_wp2_with fail
          go_roundw
          case rel=>exact ⟨k+1,by have:=Hlt.out;omega,by go_num,KQ6,HC6⟩
          case measure=>have:=Hlt.out;simp [intOf];omega
  · obtain rfl:k=n:=by omega
    have t0:decide ((k:Int)<(k:Int))=false:=by simp
    have t0b:decide (k<k)=false:=by simp
    go_wp2_with fail
    go_ret2
    exact ⟨_,rfl,HB4.out.trans (HC.out.below HB4.out.size fun j hj e=>by have:=HQB.out;omega)⟩
end
end Go.Proofs.Ytajhkncolbgkbaa
