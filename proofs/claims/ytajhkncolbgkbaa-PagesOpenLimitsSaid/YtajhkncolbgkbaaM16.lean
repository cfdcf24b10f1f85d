/- Pl2: joined by program, for one claim. -/
import Derived.Test.YtajhkncolbgkbaaM15
set_option linter.unusedVariables false
set_option linter.unusedSimpArgs false
section
namespace Go.Proofs.Ytajhkncolbgkbaa
open Go.RowKit Go.Sort Go.Maps
theorem nowI_mk (n:Nat):nowI (mkDk n)=List.replicate n (zerosP 128):=by
 unfold nowI mkDk
 simp only [List.map_replicate]
 rfl
theorem targets_mk (n:Nat):targetsP (List.replicate n (zerosP 128))=[]:=by
 cases n with
 | zero=>rfl
 | succ n=>exact targets_zero (by simp [List.replicate_succ])
theorem replay_mk (n:Nat):replayP (nowI (mkDk n))=[]:=by
 rw [nowI_mk]
 unfold replayP;rw [targets_mk];rfl
theorem zeros_numOf:numOf (zerosP 128)=0:=by unfold numOf;rw [if_pos zeros_good,zeros_num]
theorem mx_mk (n:Nat):mxP (List.replicate n (zerosP 128))=0:=by
 induction n with
 | zero=>rfl
 | succ n ih=>rw [List.replicate_succ',mxP_snoc,ih,zeros_numOf];rfl
theorem bad_mk (n k:Nat) (h:k+17≤n):badP (imgR (List.replicate n (zerosP 128))) k=[]:=by
 have hi:imgR (List.replicate n (zerosP 128))=List.replicate n (zerosP 128):=by unfold imgR;rw [targets_mk];rfl
 rw [hi]
 induction k with
 | zero=>rfl
 | succ k ih =>
   rw [badP_succ,ih (by omega),if_pos];rfl
   rw [List.getD_eq_getElem?_getD,List.getElem?_replicate,if_pos (by omega)]
   exact zeros_good
theorem read_mk (n i:Nat) (h:17+i<n):readP (mkDk n) false (i:Int)=(zerosP 116,0):=by
 have hl:(mkDk n).p.length=n:=by unfold mkDk;exact List.length_replicate ..
 have hr:(mkDk n).read (17+(i:Int))=(zerosP 128,0):=by
  unfold Dk.read
  rw [if_neg (by show ¬(false=true);decide),if_neg (by unfold Dk.is;rw [hl];simp;omega)]
  have:(17+(i:Int)).toNat=17+i:=by omega
  rw [this]
  unfold mkDk
  simp only
  rw [List.getElem?_replicate,if_pos h];rfl
 unfold readP
 rw [if_neg (by decide),if_neg (by rw [hl];omega),hr]
 rw [if_neg (by simp),if_pos zeros_good]
 rfl
theorem off_mk (n:Nat):((mkDk n).setTrip 0).flush.1.off=true∧((mkDk n).setTrip 0).flush.1.p.length=n∧((mkDk n).setTrip 0).flush.2=20:=by
 refine ⟨rfl,?_,rfl⟩
 show (mkDk n).p.length=n
 unfold mkDk;exact List.length_replicate ..
set_option maxRecDepth 100000 in
set_option maxHeartbeats 4000000 in
theorem pages_limits_true (w:World) (n:Int) (hn : -9223372036854775808≤n∧n≤9223372036854775807) (off:Bool) :
 Calls Try.prog 4 #[.int .i64 n,.bool off] w fun e w'=>e = .returned (.bool true)∧Below w.heap.size w w':=by
 have hsan:=Bx.mk sanity14_true
 by_cases h1:n<1
 · have t1:decide (n<1)=true:=by simpa using h1
   go_enter Try.func4,Try.ntmps4
   go_wp2_with fail
   refine (hsan.out _).mono ?_
   rintro _ w1 ⟨rfl,hb1⟩
   have HB:=Bx.mk hb1
   clear hb1
   go_wp2_with fail
   go_ret
   exact ⟨rfl,HB.out⟩
 · have t1:decide (n<1)=false:=by simpa using h1
   by_cases h2:60<n
   · have t2:decide (n > 60)=true:=by simpa using h2
     go_enter Try.func4,Try.ntmps4
     go_wp2_with fail
     refine (hsan.out _).mono ?_
     rintro _ w1 ⟨rfl,hb1⟩
     have HB:=Bx.mk hb1
     clear hb1
     go_wp2_with fail
     go_ret
     exact ⟨rfl,HB.out⟩
   · have t2:decide (n > 60)=false:=by simpa using h2
     obtain ⟨N,rfl⟩:=Int.eq_ofNat_of_zero_le (by omega:0≤n)
     have hN1:1≤N:=by omega
     have hN2:N≤60:=by omega
     have hnew:=Bx.mk (new_ok w N hN1 (by omega))
     have hlen:(mkDk N).p.length=N:=by unfold mkDk;exact List.length_replicate ..
     have HLEN:=Bx.mk hlen
     clear h1 h2 hn hlen
     go_enter Try.func4,Try.ntmps4
     go_upto_region 6 with (go_at_call 14;refine hnew.out.mono ?_;rintro _ w1 ⟨dp,g,mb,rfl,hd1,l1,l2,l3,hb1⟩)
     have hlo : ∀ k,In3 dp g mb k→w.heap.size≤k:=fun k hk=>by rcases hk with rfl | rfl | rfl <;> assumption
     have HLO:=Bx.mk hlo
     have HD1:=Bx.mk hd1
     have HB1:=Bx.mk hb1
     clear hnew hd1 hb1 l1 l2 l3 hlo
     cases off with
     | true =>
       have htr:=Bx.mk (trip_any w1 dp g mb N 0 (mkDk N) HD1.out 0 (by omega))
       go_upto_region 8 with (go_at_call 15;refine htr.out.mono ?_;rintro _ w2 ⟨rfl,hd2,hc2⟩)
       have HB2:=Bx.mk (HB1.out.trans ((DkIs.chgP (g:=g) (mb:=mb) hc2).below HB1.out.size fun k hk hS=>by have:=HLO.out k hS;omega))
       have hfl:=Bx.mk (flush_any w2 dp g mb N 0 _ hd2)
       clear hd2 hc2 htr
       go_upto_region 9 with (go_at_call 16;refine hfl.out.mono ?_;rintro _ w3 ⟨rfl,hd3,hc3⟩)
       have HB3:=Bx.mk (HB2.out.trans (hc3.below HB2.out.size fun k hk hS=>by have:=HLO.out k hS;omega))
       obtain ⟨o1,o2,o3⟩:=off_mk N
       by_cases h17:N≤17
       · have t3:decide ((N:Int)≤17)=true:=by simp;omega
         have t3b:decide (N≤17)=true:=by simpa using h17
         have hop:=Bx.mk (popen_few w3 dp g mb N 0 _ hd3 (by rw [o2];exact h17))
         clear hd3 hc3 o1 o2 o3 hfl h17
         go_upto_region 10 with (go_at_call 17;refine hop.out.mono ?_;rintro _ w4 ⟨rfl,hb4⟩)
         have HB4:=Bx.mk (HB3.out.trans (hb4.mono HB3.out.size))
         clear hb4 hop
         go_wp2_with fail
         refine (hsan.out _).mono ?_
         rintro _ w5 ⟨rfl,hb5⟩
         have HB5:=Bx.mk (HB4.out.trans (hb5.mono HB4.out.size))
         clear hb5
         go_wp2_with fail
         go_ret
         exact ⟨rfl,HB5.out⟩
       · have t3:decide ((N:Int)≤17)=false:=by simp;omega
         have t3b:decide (N≤17)=false:=by simpa using h17
         have hop:=Bx.mk (popen_off w3 dp g mb N 0 _ hd3 (by rw [o2];omega) o1)
         clear hd3 hc3 o1 o2 o3 hfl h17
         go_upto_region 10 with (go_at_call 17;refine hop.out.mono ?_;rintro _ w4 ⟨rfl,hb4⟩)
         have HB4:=Bx.mk (HB3.out.trans (hb4.mono HB3.out.size))
         clear hb4 hop
         go_wp2_with fail
         refine (hsan.out _).mono ?_
         rintro _ w5 ⟨rfl,hb5⟩
         have HB5:=Bx.mk (HB4.out.trans (hb5.mono HB4.out.size))
         clear hb5
         go_wp2_with fail
         go_ret
         exact ⟨rfl,HB5.out⟩
     | false =>
       by_cases h17:N≤17
       · have t3:decide ((N:Int)≤17)=true:=by simp;omega
         have t3b:decide (N≤17)=true:=by simpa using h17
         have hop:=Bx.mk (popen_few w1 dp g mb N 0 _ HD1.out (by rw [HLEN.out];exact h17))
         clear h17
         go_upto_region 10 with (go_at_call 17;refine hop.out.mono ?_;rintro _ w4 ⟨rfl,hb4⟩)
         have HB4:=Bx.mk (HB1.out.trans (hb4.mono HB1.out.size))
         clear hb4 hop
         go_wp2_with fail
         refine (hsan.out _).mono ?_
         rintro _ w5 ⟨rfl,hb5⟩
         have HB5:=Bx.mk (HB4.out.trans (hb5.mono HB4.out.size))
         clear hb5
         go_wp2_with fail
         go_ret
         exact ⟨rfl,HB5.out⟩
       · have t3:decide ((N:Int)≤17)=false:=by simp;omega
         have t3b:decide (N≤17)=false:=by simpa using h17
         have hop:=St.open_ HD1.out HLO.out (by rw [HLEN.out];omega) rfl (by decide) (d':=mkDk N) (by rw [replay_mk];rfl) HB1.out.size
         rw [nowI_mk,mx_mk,HLEN.out,bad_mk N (N - 17) (by omega)] at hop
         replace hop:=Bx.mk hop
         obtain ⟨nn,hnn⟩ : ∃ nn,nn=N - 17:=⟨_,rfl⟩
         have HNN:=Bx.mk (show nn+17=N by omega)
         have hnnb:nn≤60:=by omega
         have e17:IntKind.i64.wrap ((N:Int) - 17)=(nn:Int):=by rw [IntWalk.i64_in _ (by omega)];omega
         clear h17 hnn
         go_upto_region 14 with (go_at_call 17;refine hop.out.mono ?_;rintro _ w4 ⟨pp,bv,rfl,hst4,hbad4,-,hc4⟩)
         have HS4:=Bx.mk hst4
         have HB4:=Bx.mk (HB1.out.trans (hc4.below HB1.out.size fun k hk hS=>by have:=HLO.out k hS;omega))
         obtain ⟨ba,bc,rfl,hbs⟩:=hbad4.form
         have hln:=Bx.mk fun W (h:St w.heap.size W dp g mb N pp (0+20) (mkDk N) 0 (.slice ba (ints64 []).length bc) false)=>h.len (k:=(nn:Int)) (by rw [HLEN.out];have:=HNN.out;omega)
         clear hst4 hc4 hop hbad4 hbs
         go_wp2_with fail
         refine (hln.out _ HS4.out).mono ?_
         rintro _ _ ⟨rfl,rfl⟩
         go_wp2_with fail
         refine (pnum_any _ _ _ _ _ _ HS4.out.ps).mono ?_
         rintro _ _ ⟨rfl,rfl⟩
         have hpb:=Bx.mk (pbad_any w4 pp dp _ ba bc [] false HS4.out.ps (fun i x hx=>by simp [ints64] at hx) (by decide))
         go_upto_region 16 with (go_at_call 20;refine hpb.out.mono ?_;rintro _ w5 ⟨v5,rfl,hown5,hb5⟩;obtain ⟨a5,c5,rfl,-⟩:=hown5.form)
         have HS5:=Bx.mk (HS4.out.later hb5)
         have HB5:=Bx.mk (HB4.out.trans (hb5.mono HB4.out.size))
         have hf0:Bx (∀ W,Calls Try.prog 22 #[.int .u8 0,.int .i64 116] W fun e w'=>e = .returned (.string (strOfNums (zerosP 116)))∧Below W.heap.size W w'):=⟨fun W=>full_any 0 (by omega) 116 (by omega) W⟩
         clear hb5 hown5 hpb HS4 HB4
         generalize hbl:(Value.slice ba (ints64 []).length bc)=bv at *
         clear hbl
         go_wp2_with fail
         go_loopw [9] (fun v9 wr => ∃ k:Nat,k≤nn∧v9 = .int .i64 k∧Bx (St w.heap.size wr dp g mb N pp (0+20) (mkDk N) 0 bv false)∧Bx (Below w.heap.size w wr)) (fun i _=>nn - (intOf i).toNat)
         case atStart=>exact ⟨0,Nat.zero_le _,rfl,HS5,HB5⟩
         case round =>
          obtain ⟨k,hk,rfl,HI,HW⟩:=hrel
          by_cases hlt:k<nn
          · have t0:decide ((k:Int)<(nn:Int))=true:=by simp;omega
            have t0b:decide (k<nn)=true:=by simpa using hlt
            have hr:=Bx.mk (HI.out.read (k:Int) (by omega) (read_mk N k (by have:=HNN.out;omega)))
            have Hlt:=Bx.mk hlt
            clear hlt
            go_wp2_with fail
            refine (hln.out _ HI.out).mono ?_
            rintro _ _ ⟨rfl,rfl⟩
            go_wp2_with fail
            refine hr.out.mono ?_
            rintro _ w6 ⟨rfl,hb6⟩
            have HI6:=Bx.mk (HI.out.later hb6)
            have HW6:=Bx.mk (HW.out.trans (hb6.mono HW.out.size))
            clear hb6 hr HI HW
            go_wp2_with fail
            refine (hf0.out _).mono ?_
            rintro _ w7 ⟨rfl,hb7⟩
            have HI7:=Bx.mk (HI6.out.later hb7)
            have HW7:=Bx.mk (HW6.out.trans (hb7.mono HW6.out.size))
            clear hb7 HI6 HW6
            go_wp2_with fail
            go_roundw
            case rel=>exact ⟨_,_,_,_,_,_,_,_,_,_,_,_,_,_,_,_,_,_,_,_,_,_,_,⟨k+1,by have:=Hlt.out;omega,by go_num,HI7,HW7⟩,rfl⟩
            case measure=>have:=Hlt.out;simp [intOf];omega
          · obtain rfl:k=nn:=by omega
            have t0:decide ((k:Int)<(k:Int))=false:=by simp
            have t0b:decide (k<k)=false:=by simp
            go_wp2_with fail
            refine (hln.out _ HI.out).mono ?_
            rintro _ _ ⟨rfl,rfl⟩
            go_wp2_with fail
            refine (hsan.out _).mono ?_
            rintro _ w8 ⟨rfl,hb8⟩
            have HW8:=Bx.mk (HW.out.trans (hb8.mono HW.out.size))
            clear hb8
            go_wp2_with fail
            go_ret
            exact ⟨rfl,HW8.out⟩
end Go.Proofs.Ytajhkncolbgkbaa
end
