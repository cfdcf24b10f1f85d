/- Pwb, Prc, Prs, Pwt, Psw: joined by program, for one claim. -/
import Derived.Test.YtajhkncolbgkbaaM12
import Derived.Test.YtajhkncolbgkbaaM4
import Derived.Test.YtajhkncolbgkbaaM9
import Derived.Laws.ResultCell
import Derived.Test.YtajhkncolbgkbaaM13
import Derived.Test.YtajhkncolbgkbaaM14
import Derived.Test.YtajhkncolbgkbaaM8
set_option linter.unusedVariables false
set_option linter.unusedSimpArgs false
namespace Go.Proofs.Ytajhkncolbgkbaa
section
open Go.RowKit Go.Sort Go.Maps
set_option maxRecDepth 100000 in
set_option maxHeartbeats 1000000 in
theorem pwrite_bad (w:World) (pp dp N g mb cap m:Nat) (bv:Value) (cl:Bool) (d:Dk) (hp:PS w pp dp N bv cl) (h:DkIs w dp g mb cap m d) (a:Option Addr) (c:Nat) (l:List (Int × List Int)) (hl:l.length≤1000) (hs:SlP w a l) (hw64 : ∀ x∈l,(-9223372036854775808≤x.1∧x.1≤9223372036854775807)∧x.2.length≤10000)
 (hne:chkV cl N ((d.p.length:Int) - 17) l ≠ 0) :
 Calls Try.prog 24 #[.pointer (some ⟨pp,0,none⟩),.slice a l.length c] w fun e w'=>e = .returned (.int .i64 (chkV cl N ((d.p.length:Int) - 17) l))∧Below w.heap.size w w':=by
 have hck:=Bx.mk (pcheck_any w pp dp N g mb cap m bv cl d hp h a c l hl hs hw64)
 generalize chkV cl N ((d.p.length:Int) - 17) l=er at *
 have n1:(er != 0)=true:=by simpa using hne
 have n2:(er == 0)=false:=by simpa using hne
 clear hp h hl hs hw64 hne
 generalize l.length=n at *
 go_enter Try.func24,Try.ntmps24
 go_wp2_with fail
 refine hck.out.mono ?_
 rintro _ w1 ⟨rfl,hb1⟩
 have HB:=Bx.mk hb1
 clear hb1 hck
 go_wp2_with fail
 go_ret
 exact ⟨rfl,HB.out⟩
end
section
open Go.RowKit Go.Sort Go.Maps
set_option maxRecDepth 100000 in
set_option maxHeartbeats 2000000 in
theorem rcrc_any (t:List Int) (hb:Byts t) (hl:t.length≤100000) (w:World) :
 Calls Try.prog 11 #[.string (strOfNums t)] w fun e w'=>e = .returned (.int .i64 (crcV t:Nat))∧Below w.heap.size w w':=by
 obtain ⟨n,hn⟩ : ∃ n,n=t.length:=⟨_,rfl⟩
 have hsz:(strOfNums t).size=n:=by rw [strOfNums_size,hn]
 rw [←hn] at hl
 have Hn:=Bx.mk hn
 have Hb:=Bx.mk hb
 clear hn hb
 go_enter Try.func11,Try.ntmps11
 go_wp2_with fail
 go_loopw [3,4] (fun v3 v4 wr => ∃ k:Nat,k≤n∧v4 = .int .i64 k∧v3 = .int .i64 (crcT (t.take k) 4294967295:Nat)∧Bx (Below w.heap.size w wr)) (fun _ i _=>n - (intOf i).toNat)
 case atStart=>exact ⟨0,Nat.zero_le _,rfl,by simp [crcT],⟨Below.refl _ _⟩⟩
 case round =>
  obtain ⟨k,hk,rfl,rfl,HW⟩:=hrel
  have hc:=crcT_lt (l:=t.take k) (fun x hx=>Hb.out x (List.mem_of_mem_take hx)) (c:=4294967295) (by decide)
  by_cases hlt:k<n
  · have t0:decide ((k:Int)<(n:Int))=true:=by simp;omega
    obtain ⟨x,hx⟩ : ∃ x,t[k]? = some x:=⟨_,List.getElem?_eq_getElem (by rw [←Hn.out];exact hlt)⟩
    have hxb:=Hb.out x (List.mem_of_getElem? hx)
    obtain ⟨hk2,hget⟩:=str_get Hb.out hx
    have hT:=Bx.mk (crcT_take hx 4294967295)
    have hin:=crc_in hc hxb
    have hx8:IntKind.i64.wrap x=x:=IntWalk.i64_in _ (by omega)
    have hlt32:crcT (t.take k) 4294967295 ^^^ x.toNat<2 ^ 32:=Nat.xor_lt_two_pow hc (by omega)
    have hB:Bx (crcT (t.take (k+1)) 4294967295=crcR 8 (crcT (t.take k) 4294967295 ^^^ x.toNat)):=⟨by rw [hT.out];rfl⟩
    clear hT hx hc
    generalize crcT (t.take k) 4294967295=cc at *
    obtain ⟨c1,hc1⟩ : ∃ c1,c1=cc ^^^ x.toNat:=⟨_,rfl⟩
    rw [←hc1] at hB hin hlt32
    clear hc1
    have b1:(0:Int)≤(k:Int):=by omega
    have b2:(k:Int)<(n:Int):=by omega
    go_wp2_with fail
    clear hin hk2 hget
    go_loopw [3,5] (fun v3 v5 wr => ∃ j:Nat,j≤8∧v5 = .int .i64 j∧v3 = .int .i64 (crcR j c1:Nat)∧Bx (Below w.heap.size w wr)) (fun _ i _=>8 - (intOf i).toNat)
    case atStart=>exact ⟨0,Nat.zero_le _,rfl,rfl,HW⟩
    case round =>
     clear HW
     obtain ⟨j,hj,rfl,rfl,HW⟩:=hrel
     by_cases hjl:j<8
     · have t1:decide ((j:Int)<8)=true:=by simp;omega
       have hcj:=crcR_lt j hlt32
       have hs:=Bx.mk (crcR_succ j c1)
       generalize crcR j c1=cj at *
       by_cases ho:cj % 2=1
       · have hp:=crc_ref1 hcj ho
         have m1:(cj:Int) % 2=1:=by omega
         have m2:(cj:Int).tmod 2=1:=by rw [Int.tmod_eq_emod_of_nonneg (by omega)];exact m1
         go_wp2_with fail
         go_roundw
         case rel=>exact ⟨j+1,by omega,by go_num,by rw [hs.out],HW⟩
         case measure=>simp [intOf];omega
       · have hp:=crc_ref0 ho
         have m1:(cj:Int) % 2=0:=by omega
         have m2:(cj:Int).tmod 2=0:=by rw [Int.tmod_eq_emod_of_nonneg (by omega)];exact m1
         have hs2:Bx ((cj:Int) / 2=((crcR (j+1) c1:Nat):Int)):=⟨by rw [hs.out];exact hp⟩
         clear hp
         go_wp2_with fail
         go_roundw
         case rel=>exact ⟨j+1,by omega,by go_num,by rw [←hs2.out],HW⟩
         case measure=>simp [intOf];omega
     · obtain rfl:j=8:=by omega
       have t1:decide (((8:Nat):Int)<8)=false:=by decide
       go_wp2_with fail
       go_roundw
       case rel=>exact ⟨k+1,by omega,by go_num,by rw [hB.out],HW⟩
       case measure=>simp [intOf];omega
  · obtain rfl:k=n:=by omega
    have t0:decide ((k:Int)<(k:Int))=false:=by simp
    have e:Bx (t.take k=t):=⟨List.take_of_length_le (by rw [←Hn.out];exact Nat.le_refl _)⟩
    rw [e.out] at hc ⊢
    have hx:4294967295 - ((crcT t 4294967295:Nat):Int)=((crcV t:Nat):Int):=xor_full hc
    generalize crcT t 4294967295=ct at *
    have hw:IntKind.i64.wrap (4294967295 - (ct:Int))=4294967295 - (ct:Int):=IntWalk.i64_in _ (by omega)
    rw [hx] at hw
    go_wp2_with fail
    go_ret
    exact ⟨by first | rfl | rw [hx],HW.out⟩
set_option maxRecDepth 100000 in
set_option maxHeartbeats 1000000 in
theorem rfour_any (n:Nat) (w:World) (hn:n<2 ^ 62):Calls Try.prog 34 #[.int .i64 (n:Int)] w fun e w'=>e = .returned (.string (strOfNums (fourP n)))∧Below w.heap.size w w':=by
 obtain ⟨a,ha⟩ : ∃ a:Int,a=((n % 256:Nat):Int):=⟨_,rfl⟩
 obtain ⟨b,hb⟩ : ∃ a:Int,a=((n / 256 % 256:Nat):Int):=⟨_,rfl⟩
 obtain ⟨c,hc⟩ : ∃ a:Int,a=((n / 65536 % 256:Nat):Int):=⟨_,rfl⟩
 obtain ⟨d,hd⟩ : ∃ a:Int,a=((n / 16777216 % 256:Nat):Int):=⟨_,rfl⟩
 have f1:IntKind.u8.wrap (n:Int)=a:=by rw [IntKind.wrap_u8,ha];omega
 have f2:IntKind.u8.wrap ((n:Int) / 256)=b:=by rw [IntKind.wrap_u8,hb];omega
 have f3:IntKind.u8.wrap ((n:Int) / 65536)=c:=by rw [IntKind.wrap_u8,hc];omega
 have f4:IntKind.u8.wrap ((n:Int) / 16777216)=d:=by rw [IntKind.wrap_u8,hd];omega
 have hfp:fourP n=[a,b,c,d]:=by unfold fourP;rw [ha,hb,hc,hd]
 rw [hfp]
 have hsl:Sl (w.alloc (.cells #[.int .u8 a,.int .u8 b,.int .u8 c,.int .u8 d] 5)) .u8 (some ⟨w.heap.size,0,none⟩) [a,b,c,d]:=fun i x hx=>⟨w.heap.size,0,rfl,by
  have hk:Bk (w.alloc (.cells #[.int .u8 a,.int .u8 b,.int .u8 c,.int .u8 d] 5)) w.heap.size #[.int .u8 a,.int .u8 b,.int .u8 c,.int .u8 d] 5:=Bk.new _ _ _
  rw [Nat.zero_add]
  match i,hx with
  | 0,hx=>obtain rfl:=Option.some.inj hx;exact hk.cell 0 rfl
  | 1,hx=>obtain rfl:=Option.some.inj hx;exact hk.cell 1 rfl
  | 2,hx=>obtain rfl:=Option.some.inj hx;exact hk.cell 2 rfl
  | 3,hx=>obtain rfl:=Option.some.inj hx;exact hk.cell 3 rfl
  | i+4,hx=>cases hx⟩
 have hcv:=conv_str (P:=Try.prog) 66 5 9 Try.underlying66 Try.underlying5 Try.underlying9 hsl 4 4 rfl
 clear hsl hfp ha hb hc hd
 go_enter Try.func34,Try.ntmps34
 go_wp2_with fail
 go_ret
 exact ⟨rfl,(Below.refl _ _).alloc (Nat.le_refl _) _⟩
set_option maxRecDepth 100000 in
set_option maxHeartbeats 1000000 in
theorem rblank_any (w:World):Calls Try.prog 28 #[] w fun e w'=>e = .returned (.string (strOfNums (zerosP 128)))∧Below w.heap.size w w':=by
 have hmk : ∀ W,(Instr.makeSlice 66 (.int .i64 128) (.int .i64 128)).run Try.prog W = .ok (.slice (some ⟨W.heap.size,0,none⟩) 128 128) (W.alloc (.cells (madeCells #[.int .u8 0] 128) 5)) :=
  fun W=>run_make_row' (P:=Try.prog) 66 5 (.int .u8 0) 1 Try.underlying66 (by kernel_rfl) rfl .i64 .i64 128 (by omega) (by omega) W
 have hrow:(w.alloc (.cells (madeCells #[.int .u8 0] 128) 5)).rowIs w.heap.size 5 128 (fun _=>.int .u8 0):=World.rowIs_made _ _ _ _
 have hsl:Sl (w.alloc (.cells (madeCells #[.int .u8 0] 128) 5)) .u8 (some ⟨w.heap.size,0,none⟩) (zerosP 128):=fun i x hx=>⟨w.heap.size,0,rfl,by
  have hi:i<128:=by have:=(List.getElem?_eq_some_iff.1 hx).1;simpa [zerosP] using this
  rw [Nat.zero_add]
  have hx0:x=0:=by
   have:=List.mem_of_getElem? hx
   exact List.eq_of_mem_replicate this
  rw [hx0]
  exact hrow.cell hi⟩
 have hcv:=conv_str (P:=Try.prog) 66 5 9 Try.underlying66 Try.underlying5 Try.underlying9 hsl 128 128 (by simp [zerosP])
 clear hsl hrow
 go_enter Try.func28,Try.ntmps28
 go_wp2_with fail
 go_ret
 exact ⟨rfl,(Below.refl _ _).alloc (Nat.le_refl _) _⟩
end
section
open Go.RowKit Go.Sort Go.Maps
set_option maxRecDepth 100000 in
set_option maxHeartbeats 1000000 in
theorem rseal_any (n:Int) (d:List Int) (hb:Byts d) (hl:d.length≤10000) (w:World) :
 Calls Try.prog 13 #[.int .i64 n,.string (strOfNums d)] w fun e w'=>e = .returned (.string (strOfNums (sealV n d)))∧Below w.heap.size w w':=by
 have hsz:(strOfNums d).size=d.length:=strOfNums_size d
 by_cases hok:1≤n∧n≤1073741824∧d.length=116
 · obtain ⟨h1,h2,h3⟩:=hok
   have hv:sealV n d=sealP n.toNat d:=by unfold sealV;rw [if_pos ⟨h1,h2,h3⟩]
   obtain ⟨m,rfl⟩ : ∃ m:Nat,n=(m:Int):=⟨n.toNat,by omega⟩
   rw [Int.toNat_natCast] at hv
   have t0:decide ((m:Int)<1)=false:=by simp;omega
   have t1:decide ((m:Int) > 1073741824)=false:=by simp;omega
   have t1b:decide (1073741824<m)=false:=by simp;omega
   rw [h3] at hsz
   have hb2:Byts (fourP m++d):=fun x hx=>by
    rcases List.mem_append.1 hx with h | h
    · exact byts_four m x h
    · exact hb x h
   have hcr:=Bx.mk fun W=>rcrc_any (fourP m++d) hb2 (by simp [four_len];omega) W
   have a1:strOfNums (fourP m)++strOfNums d=strOfNums (fourP m++d):=str_append _ _
   have a2:strOfNums (fourP m++d)++strOfNums (fourP (crcV (fourP m++d)))=strOfNums (fourP m++d++fourP (crcV (fourP m++d))):=str_append _ _
   have a3:strOfNums (fourP m++d++fourP (crcV (fourP m++d)))++strOfNums (fourP m)=strOfNums (sealV (m:Int) d):=by rw [hv];exact str_append _ _
   have z1:(strOfNums (fourP m)).size=4:=by rw [strOfNums_size];rfl
   have z2:(strOfNums (fourP m++d)).size=120:=by rw [strOfNums_size,List.length_append,h3,four_len]
   have z3:(strOfNums (fourP (crcV (fourP m++d)))).size=4:=by rw [strOfNums_size];rfl
   have z4:(strOfNums (fourP m++d++fourP (crcV (fourP m++d)))).size=124:=by rw [strOfNums_size,List.length_append,List.length_append,h3,four_len,four_len]
   have hb4:=Bx.mk fun W=>rfour_any m W (by omega)
   have hcl:=crcV_lt hb2
   have hb5:=Bx.mk fun W=>rfour_any (crcV (fourP m++d)) W (by omega)
   clear hb2 hv hb hcl
   generalize strOfNums (sealV (m:Int) d)=R at *
   generalize strOfNums (fourP m++d++fourP (crcV (fourP m++d)))=S3 at *
   generalize strOfNums (fourP (crcV (fourP m++d)))=S2 at *
   generalize crcV (fourP m++d)=cv at *
   generalize strOfNums (fourP m++d)=S1 at *
   generalize strOfNums (fourP m)=S4 at *
   generalize strOfNums d=Sd at *
   go_enter Try.func13,Try.ntmps13
   go_wp2_with fail
   refine (hb4.out _).mono ?_
   rintro _ w1 ⟨rfl,hw1⟩
   have HB1:=Bx.mk hw1
   clear hw1
   go_wp2_with fail
   refine (hcr.out _).mono ?_
   rintro _ w2 ⟨rfl,hw2⟩
   have HB2:=Bx.mk (HB1.out.trans (hw2.mono HB1.out.size))
   clear hw2
   go_wp2_with fail
   refine (hb5.out _).mono ?_
   rintro _ w3 ⟨rfl,hw3⟩
   have HB3:=Bx.mk (HB2.out.trans (hw3.mono HB2.out.size))
   clear hw3
   go_wp2_with fail
   refine (hb4.out _).mono ?_
   rintro _ w4 ⟨rfl,hw4⟩
   have HB4:=Bx.mk (HB3.out.trans (hw4.mono HB3.out.size))
   clear hw4
   go_wp2_with fail
   go_ret
   exact ⟨rfl,HB4.out⟩
 · have hv:sealV n d=[]:=by unfold sealV;rw [if_neg hok]
   rw [hv]
   have he:strOfNums []=⟨#[]⟩:=rfl
   rw [he]
   obtain ⟨l,hln⟩ : ∃ l,l=d.length:=⟨_,rfl⟩
   rw [←hln] at hok hsz
   generalize strOfNums d=Sd at *
   clear hv he hb hln hl
   by_cases h1:n<1
   · have t0:decide (n<1)=true:=by simpa using h1
     go_enter Try.func13,Try.ntmps13
     go_wp2_with fail
     go_ret
     exact ⟨rfl,Below.refl _ _⟩
   · have t0:decide (n<1)=false:=by simpa using h1
     by_cases h2:n > 1073741824
     · have t1:decide (n > 1073741824)=true:=by simpa using h2
       go_enter Try.func13,Try.ntmps13
       go_wp2_with fail
       go_ret
       exact ⟨rfl,Below.refl _ _⟩
     · have t1:decide (n > 1073741824)=false:=by simpa using h2
       have h3 : ¬l=116:=fun h=>hok ⟨by omega,by omega,h⟩
       have t2:((l:Int) != 116)=true:=by simp;omega
       have t2b:((l:Int) == 116)=false:=by simp;omega
       have t2c:decide ((l:Int)=116)=false:=by simp;omega
       have t2d : ¬(l:Int)=116:=by omega
       clear hok
       go_enter Try.func13,Try.ntmps13
       go_wp2_with fail
       go_ret
       exact ⟨rfl,Below.refl _ _⟩
set_option maxRecDepth 100000 in
set_option maxHeartbeats 1000000 in
theorem full_any (c:Int) (_hc:0≤c∧c≤255) (k:Nat) (hk:k≤1000) (w:World) :
 Calls Try.prog 22 #[.int .u8 c,.int .i64 (k:Int)] w fun e w'=>e = .returned (.string (strOfNums (List.replicate k c)))∧Below w.heap.size w w':=by
 have hmk : ∀ W,(Instr.makeSlice 66 (.int .i64 (k:Int)) (.int .i64 (k:Int))).run Try.prog W = .ok (.slice (some ⟨W.heap.size,0,none⟩) k k) (W.alloc (.cells (madeCells #[.int .u8 0] k) 5)) :=
  fun W=>run_make_row' (P:=Try.prog) 66 5 (.int .u8 0) 1 Try.underlying66 (by kernel_rfl) rfl .i64 .i64 k (by omega) (by omega) W
 go_enter Try.func22,Try.ntmps22
 go_wp2_with fail
 clear hmk
 go_loopw [6] (fun i wr => ∃ j:Nat,j≤k∧i = .int .i64 j∧Bx (wr.rowIs w.heap.size 5 k (fun a=>.int .u8 (if a<j then c else 0)))∧Bx (Below w.heap.size w wr)) (fun i _=>k - (intOf i).toNat)
 case atStart=>exact ⟨0,Nat.zero_le _,rfl,⟨(World.rowIs_made _ _ _ _).congr (fun i _=>rfl)⟩,⟨(Below.refl _ _).alloc (Nat.le_refl _) _⟩⟩
 case round =>
  obtain ⟨j,hj,rfl,hrow,hB⟩:=hrel
  by_cases hlt:j<k
  · have t0:decide ((j:Int)<(k:Int))=true:=by simp;omega
    have b1:(0:Int)≤(j:Int):=by omega
    have b2:(j:Int)<(k:Int):=by omega
    have hcell:=hrow.out.cell hlt
    have hfr:=hrow.out.frozen j
    go_wp2_with fail
    have hrow2:=Bx.mk ((hrow.out.set j (.int .u8 c)).congr (g:=fun a=>.int .u8 (if a<j+1 then c else 0)) (fun a ha=>by
     by_cases e:a=j
     · rw [e];simp only [if_true];rw [if_pos (by omega)]
     · simp only [e,if_false];by_cases h5:a<j
       · rw [if_pos h5,if_pos (by omega)]
       · rw [if_neg h5,if_neg (by omega)]))
    have hB2:=Bx.mk (show Below w.heap.size w (wr.setCell ⟨w.heap.size,j,none⟩ (.int .u8 c)) from hB.out.setCell (Nat.le_refl _) _)
    clear hcell hfr
    go_roundw
    case rel=>exact ⟨j+1,by omega,by go_num,hrow2,hB2⟩
    case measure=>simp [intOf];omega
  · obtain rfl:j=k:=by omega
    have t0:decide ((j:Int)<(j:Int))=false:=by simp
    have hsl:Sl wr .u8 (some ⟨w.heap.size,0,none⟩) (List.replicate j c):=fun i x hx=>⟨w.heap.size,0,rfl,by
     have hi:i<j:=by have:=(List.getElem?_eq_some_iff.1 hx).1;simpa using this
     have:=hrow.out.cell hi
     simp only [hi,if_true] at this
     rw [Nat.zero_add,this]
     rw [List.eq_of_mem_replicate (List.mem_of_getElem? hx)]⟩
    have hcv:=conv_str (P:=Try.prog) 66 5 9 Try.underlying66 Try.underlying5 Try.underlying9 hsl j j (by simp)
    clear hsl hrow
    go_wp2_with fail
    go_ret
    exact ⟨rfl,hB.out⟩
end
section
open Go.RowKit Go.Sort Go.Maps
set_option maxRecDepth 100000 in
set_option maxHeartbeats 1000000 in
theorem lwrite_any (page c:Int) (hc:0≤c∧c≤255) (w:World) :
 Calls Try.prog 29 #[.int .i64 page,.int .u8 c] w fun e w'=>e = .returned (.agg #[.int .i64 page,.string (strOfNums (List.replicate 116 c))])∧Below w.heap.size w w':=by
 have hf:Bx (∀ W,Calls Try.prog 22 #[.int .u8 c,.int .i64 116] W fun e w'=>e = .returned (.string (strOfNums (List.replicate 116 c)))∧Below W.heap.size W w'):=⟨fun W=>full_any c hc 116 (by omega) W⟩
 generalize strOfNums (List.replicate 116 c)=S at *
 go_enter Try.func29,Try.ntmps29
 go_upto_region 1 with fail
 generalize hW:World.alloc w _=W
 have hB:=bl1 hW
 have kb:Bk W w.heap.size #[.int .i64 0,.string ⟨#[]⟩] 69:=bk0 hW rfl
 clear hW
 go_wp2_with fail
 refine (hf.out _).mono ?_
 rintro _ w1 ⟨rfl,hb⟩
 have HB:=Bx.mk (hB.trans (hb.mono hB.size))
 have KB:=Bx.mk (kb.later hb)
 have c0:=KB.out.cell 0 rfl;have c1:=KB.out.cell 1 rfl
 have e0:=KB.out.frozen 0;have e1:=KB.out.frozen 1
 clear hb hf hB kb
 go_wp2_with fail
 have hk:Bk ((w1.setCell ⟨w.heap.size,0,none⟩ (.int .i64 page)).setCell ⟨w.heap.size,1,none⟩ (.string S)) w.heap.size #[.int .i64 page,.string S] 69:=by simpa using (KB.out.set 0 (.int .i64 page)).set 1 (.string S)
 exact bodyPost_ret (v:=.agg #[.int .i64 page,.string S]) (results_cell_row rfl _ _ w.heap.size 69 #[.int .i64 page,.string S] (0,0) _ rfl hk Try.underlying69 rfl (by kernel_rfl)) rfl ⟨rfl,(HB.out.setCell (Nat.le_refl _) _).setCell (Nat.le_refl _) _⟩
end
section
open Go.RowKit Go.Sort Go.Maps
structure St (B:Nat) (W:World) (dp g mb cap pp m:Nat) (d:Dk) (N:Nat) (bv:Value) (cl:Bool):Prop where
 dk:DkIs W dp g mb cap m d
 ps:PS W pp dp N bv cl
 ne : ¬In3 dp g mb pp
 lo : ∀ k,(k=pp∨In3 dp g mb k)→B≤k
theorem St.later {B:Nat} {W W':World} {dp g mb cap pp m:Nat} {d:Dk} {N:Nat} {bv:Value} {cl:Bool} (h:St B W dp g mb cap pp m d N bv cl) (hb:Below W.heap.size W W'):St B W' dp g mb cap pp m d N bv cl :=
 ⟨h.dk.later hb,h.ps.later hb,h.ne,h.lo⟩
theorem St.write {B:Nat} {W:World} {dp g mb cap pp m:Nat} {d:Dk} {N:Nat} {bv:Value} (h:St B W dp g mb cap pp m d N bv false) (hm:m+40<1000000) (hN:N<1073741824) (a:Option Addr) (c:Nat) (L:List (Nat × List Int)) (hL:BatchOk d.p.length L) (hs:SlP W a (L.map fun x=>((x.1:Int),x.2))) {d':Dk} {er:Int} (hr:d.run (stepsP (N+1) L)=(d',er)) (hB:B≤W.heap.size) :
 Calls Try.prog 24 #[.pointer (some ⟨pp,0,none⟩),.slice a L.length c] W fun e w'=>e = .returned (.int .i64 er)∧St B w' dp g mb cap pp (m+40) d' (if er=0 then N+1 else N) bv (decide (er ≠ 0))∧Below B W w':=by
 refine (pwrite_ok W pp dp N g mb cap m bv d h.ps h.dk h.ne hm hN a c L hL hs).mono ?_
 intro e w' hp
 unfold WrPost at hp
 rw [hr] at hp
 obtain ⟨h1,h2,h3,h4⟩:=hp
 exact ⟨h1,⟨h3,h2,h.ne,h.lo⟩,h4.below hB fun k hk hS=>by have:=h.lo k hS;omega⟩
theorem St.read {B:Nat} {W:World} {dp g mb cap pp m:Nat} {d:Dk} {N:Nat} {bv:Value} {cl:Bool} (h:St B W dp g mb cap pp m d N bv cl) (i:Int) (hi : -9223372036854775808≤i∧i≤9223372036854775807) {s:List Int} {er:Int} (hr:readP d cl i=(s,er)) :
 Calls Try.prog 21 #[.pointer (some ⟨pp,0,none⟩),.int .i64 i] W fun e w'=>e = .returned (.tuple #[.string (strOfNums s),.int .i64 er])∧Below W.heap.size W w':=by
 have:=pread_any W pp dp N g mb cap m bv cl d h.ps h.dk i hi
 rw [hr] at this
 exact this
theorem St.len {B:Nat} {W:World} {dp g mb cap pp m:Nat} {d:Dk} {N:Nat} {bv:Value} {cl:Bool} (h:St B W dp g mb cap pp m d N bv cl) {k:Int} (hk:(d.p.length:Int) - 17=k) :
 Calls Try.prog 18 #[.pointer (some ⟨pp,0,none⟩)] W fun e w'=>e = .returned (.int .i64 k)∧W=w':=by
 have:=plen_any W pp dp N g mb cap m bv cl d h.ps h.dk
 rwa [hk] at this
theorem St.refuse {B:Nat} {W:World} {dp g mb cap pp m:Nat} {d:Dk} {N:Nat} {bv:Value} {cl:Bool} (h:St B W dp g mb cap pp m d N bv cl) (a:Option Addr) (c:Nat) (l:List (Int × List Int)) (hl:l.length≤1000) (hs:SlP W a l) (hw64 : ∀ x∈l,(-9223372036854775808≤x.1∧x.1≤9223372036854775807)∧x.2.length≤10000)
 {er:Int} (hr:chkV cl N ((d.p.length:Int) - 17) l=er) (hne:er ≠ 0) :
 Calls Try.prog 24 #[.pointer (some ⟨pp,0,none⟩),.slice a l.length c] W fun e w'=>e = .returned (.int .i64 er)∧Below W.heap.size W w':=by
 have:=pwrite_bad W pp dp N g mb cap m bv cl d h.ps h.dk a c l hl hs hw64 (by rw [hr];exact hne)
 rw [hr] at this
 exact this
theorem St.disk {B:Nat} {W W':World} {dp g mb cap pp m m':Nat} {d d':Dk} {N:Nat} {bv:Value} {cl:Bool} (h:St B W dp g mb cap pp m d N bv cl) (hd:DkIs W' dp g mb cap m' d') (hc:Chg (In3 dp g mb) W W'):St B W' dp g mb cap pp m' d' N bv cl :=
 ⟨hd,Bk.chg h.ps hc h.ne,h.ne,h.lo⟩
theorem St.below {B:Nat} {W W':World} {dp g mb cap pp m:Nat} {d:Dk} {N:Nat} {bv:Value} {cl:Bool} (h:St B W dp g mb cap pp m d N bv cl) (hc:Chg (In3 dp g mb) W W') (hB:B≤W.heap.size):Below B W W' :=
 hc.below hB fun k hk hS=>by have:=h.lo k (.inr hS);omega
theorem St.open_ {B:Nat} {W:World} {dp g mb cap m:Nat} {d:Dk} (hd:DkIs W dp g mb cap m d) (hlo : ∀ k,In3 dp g mb k→B≤k) (h17:17<d.p.length) (ho:d.off=false) (hm:m+20<1000000) {d':Dk} (hr:d.run (replayP (nowI d))=(d',0)) (hB:B≤W.heap.size) :
 Calls Try.prog 17 #[.pointer (some ⟨dp,0,none⟩)] W fun e w' => ∃ pp bv,e = .returned (.tuple #[.pointer (some ⟨pp,0,none⟩),.int .i64 0])∧St B w' dp g mb cap pp (m+20) d' (mxP (nowI d)) bv false∧Own w' W.heap.size 3 .i64 bv (ints64 (badP (imgR (nowI d)) (d.p.length - 17)))∧W.heap.size≤pp∧Chg (In3 dp g mb) W w':=by
 refine (popen_on W dp g mb cap m d hd h17 ho hm).mono ?_
 intro e w' hp
 unfold OpPost at hp
 rw [hr] at hp
 obtain ⟨h1,h2,⟨h3,_⟩ | ⟨_,pp,bv,h4,h5,h6,h7⟩⟩:=hp
 · exact absurd rfl h3
 · have hlt:=hd.lt
   exact ⟨pp,bv,h4,⟨h1,h6,fun h=>by rcases h with rfl | rfl | rfl <;> omega,fun k hk=>by
    rcases hk with rfl | hk
    · omega
    · exact hlo k hk⟩,h7,h5,h2⟩
theorem slP_two {W:World} (b:Nat) (x y:Int) (s t:List Int) (ty:TypeId) (h:W.heap[b]? = some (.cells #[.int .i64 x,.string (strOfNums s),.int .i64 y,.string (strOfNums t)] ty (0,0))):SlP W (some ⟨b,0,none⟩) [(x,s),(y,t)]:=fun i z hz=>by
 have hc : ∀ j v,(#[Value.int .i64 x,.string (strOfNums s),.int .i64 y,.string (strOfNums t)]:Array Value)[j]? = some v→W.cell? ⟨b,j,none⟩=some v:=fun j v hv=>Bk.cell (show Bk W b _ ty from h) j hv
 match i,hz with
 | 0, hz =>
   obtain rfl:=Option.some.inj hz
   exact ⟨b,0,rfl,hc 0 _ rfl,hc 1 _ rfl⟩
 | 1, hz =>
   obtain rfl:=Option.some.inj hz
   exact ⟨b,0,rfl,hc 2 _ rfl,hc 3 _ rfl⟩
theorem slP_one {W:World} (b:Nat) (x:Int) (s:List Int) (ty:TypeId) (h:W.heap[b]? = some (.cells #[.int .i64 x,.string (strOfNums s)] ty (0,0))):SlP W (some ⟨b,0,none⟩) [(x,s)]:=fun i z hz=>by
 have hc : ∀ j v,(#[Value.int .i64 x,.string (strOfNums s)]:Array Value)[j]? = some v→W.cell? ⟨b,j,none⟩=some v:=fun j v hv=>Bk.cell (show Bk W b _ ty from h) j hv
 match i,hz with
 | 0, hz =>
   obtain rfl:=Option.some.inj hz
   exact ⟨b,0,rfl,hc 0 _ rfl,hc 1 _ rfl⟩
set_option maxRecDepth 100000 in
set_option maxHeartbeats 4000000 in
theorem sanity14_true (w:World):Calls Try.prog 7 #[] w fun e w'=>e = .returned (.bool true)∧Below w.heap.size w w':=by
 have hnew:=Bx.mk (new_ok w 20 (by decide) (by decide))
 have hfa:Bx (∀ W,Calls Try.prog 22 #[.int .u8 97,.int .i64 116] W fun e w'=>e = .returned (.string (strOfNums sa))∧Below W.heap.size W w'):=⟨fun W=>full_any 97 (by omega) 116 (by omega) W⟩
 have hfb:Bx (∀ W,Calls Try.prog 22 #[.int .u8 98,.int .i64 116] W fun e w'=>e = .returned (.string (strOfNums sb))∧Below W.heap.size W w'):=⟨fun W=>full_any 98 (by omega) 116 (by omega) W⟩
 have hfx:Bx (∀ W,Calls Try.prog 22 #[.int .u8 120,.int .i64 116] W fun e w'=>e = .returned (.string (strOfNums sx))∧Below W.heap.size W w'):=⟨fun W=>full_any 120 (by omega) 116 (by omega) W⟩
 have hf0:Bx (∀ W,Calls Try.prog 22 #[.int .u8 0,.int .i64 116] W fun e w'=>e = .returned (.string (strOfNums (zerosP 116)))∧Below W.heap.size W w'):=⟨fun W=>full_any 0 (by omega) 116 (by omega) W⟩
 have hwa:Bx (∀ (i:Int) W,Calls Try.prog 29 #[.int .i64 i,.int .u8 97] W fun e w'=>e = .returned (.agg #[.int .i64 i,.string (strOfNums sa)])∧Below W.heap.size W w'):=⟨fun i W=>lwrite_any i 97 (by omega) W⟩
 have hwb:Bx (∀ (i:Int) W,Calls Try.prog 29 #[.int .i64 i,.int .u8 98] W fun e w'=>e = .returned (.agg #[.int .i64 i,.string (strOfNums sb)])∧Below W.heap.size W w'):=⟨fun i W=>lwrite_any i 98 (by omega) W⟩
 go_enter Try.func7,Try.ntmps7
 go_upto_region 4 with (go_at_call 14;refine hnew.out.mono ?_;rintro _ w1 ⟨dp,g,mb,rfl,hd1,l1,l2,l3,hb1⟩)
 have hlo : ∀ k,In3 dp g mb k→w.heap.size≤k:=fun k hk=>by rcases hk with rfl | rfl | rfl <;> assumption
 have HLO:=Bx.mk hlo
 have hop:=Bx.mk (St.open_ hd1 hlo (by rw [show (mkDk 20).p.length=20 from sn0.2.1];decide) sn0.1 (by decide) (d':=sd0) (by
  have h0:replayP (nowI (mkDk 20))=[]:=by unfold replayP;rw [show targetsP (nowI (mkDk 20))=[] from sn0.2.2.1];rfl
  rw [h0];rfl) hb1.size)
 rw [show mxP (nowI (mkDk 20))=0 from sn0.2.2.2.1] at hop
 have HB1:=Bx.mk hb1
 clear hd1 hb1 l1 l2 l3 hlo hnew
 go_upto_region 7 with (go_at_call 17;refine hop.out.mono ?_;rintro _ w2 ⟨pp,bv,rfl,hst2,-,-,hc2⟩)
 have HS2:=Bx.mk hst2
 have HB2:=Bx.mk (HB1.out.trans (hc2.below HB1.out.size fun k hk hS=>by have:=HLO.out k hS;omega))
 clear hst2 hc2 hop
 have hr:=Bx.mk (HS2.out.read 2 (by omega) sn1)
 go_upto_region 8 with (go_at_call 21;refine hr.out.mono ?_;rintro _ w3 ⟨rfl,hb3⟩)
 have HS3:=Bx.mk (HS2.out.later hb3)
 have HB3:=Bx.mk (HB2.out.trans (hb3.mono HB2.out.size))
 clear hb3 hr HS2 HB2 HB1
 go_wp2_with fail
 refine (hwa.out 0 _).mono ?_
 rintro _ w4 ⟨rfl,hb4⟩
 have HS4:=Bx.mk (HS3.out.later hb4)
 have HB4:=Bx.mk (HB3.out.trans (hb4.mono HB3.out.size))
 clear hb4 HS3 HB3
 go_wp2_with fail
 refine (hwb.out 2 _).mono ?_
 rintro _ w5 ⟨rfl,hb5⟩
 have HS5:=Bx.mk (HS4.out.later hb5)
 have HB5:=Bx.mk (HB4.out.trans (hb5.mono HB4.out.size))
 clear hb5 HS4 HB4
 have hb6:Below w5.heap.size w5 (w5.alloc (.cells #[.int .i64 0,.string (strOfNums sa),.int .i64 2,.string (strOfNums sb)] 69)):=(Below.refl _ _).alloc (Nat.le_refl _) _
 have hwt:=Bx.mk ((HS5.out.later hb6).write (by decide) (by decide) (some ⟨w5.heap.size,0,none⟩) 2 sL1 (by rw [sn0.2.1];exact sn_b1) (slP_two w5.heap.size 0 2 sa sb _ (heap_alloc_new _ _)) (show sd0.run (stepsP (0+1) sL1)=(sd1,0) from Prod.ext rfl sn2.1) (Nat.le_trans HB5.out.size hb6.size))
 have hb6z:=Bx.mk hb6
 clear hb6
 go_upto_region 9 with (go_at_call 24;refine hwt.out.mono ?_;rintro _ w7 ⟨rfl,hs7,hb7⟩)
 have HS7:=Bx.mk (show St w.heap.size w7 dp g mb 20 pp (0+20+40) sd1 1 bv false from hs7)
 have HB7:=Bx.mk ((HB5.out.trans (hb6z.out.mono HB5.out.size)).trans hb7)
 clear hs7 hb7 hwt hb6z HS5 HB5
 have hr:=Bx.mk (HS7.out.read 2 (by omega) sn3)
 go_upto_region 10 with (go_at_call 21;refine hr.out.mono ?_;rintro _ w8 ⟨rfl,hb8⟩)
 have HS8:=Bx.mk (HS7.out.later hb8)
 have HB8:=Bx.mk (HB7.out.trans (hb8.mono HB7.out.size))
 clear hb8 hr HS7 HB7
 have hrf:=Bx.mk (HS8.out.refuse none 0 [] (by decide) (fun i x hx=>by simp at hx) (fun x hx=>by cases hx) (er:=1) (by rw [sn2.2.2];exact sn_c0) (by decide))
 go_upto_region 11 with (go_at_call 24;refine hrf.out.mono ?_;rintro _ w9 ⟨rfl,hb9⟩)
 have HS9:=Bx.mk (HS8.out.later hb9)
 have HB9:=Bx.mk (HB8.out.trans (hb9.mono HB8.out.size))
 clear hb9 hrf HS8 HB8
 go_wp2_with fail
 refine (hwa.out 3 _).mono ?_
 rintro _ w10 ⟨rfl,hb10⟩
 have hb11:Below w10.heap.size w10 (w10.alloc (.cells #[.int .i64 3,.string (strOfNums sa)] 69)):=(Below.refl _ _).alloc (Nat.le_refl _) _
 have hb12:=hb10.trans (hb11.mono hb10.size)
 have HS11:=Bx.mk (HS9.out.later hb12)
 have HB11:=Bx.mk (HB9.out.trans (hb12.mono HB9.out.size))
 have hrf:=Bx.mk (HS11.out.refuse (some ⟨w10.heap.size,0,none⟩) 1 [(3,sa)] (by decide) (slP_one w10.heap.size 3 sa _ (heap_alloc_new _ _)) (fun x hx=>by rw [List.mem_singleton] at hx;subst hx;exact ⟨by omega,by show (116:Nat)≤10000;omega⟩) (er:=1) (by rw [sn2.2.2];exact sn_c3) (by decide))
 clear hb10 hb11 hb12 HS9 HB9
 go_upto_region 12 with (go_at_call 24;refine hrf.out.mono ?_;rintro _ w12 ⟨rfl,hb12⟩)
 have HS12:=Bx.mk (HS11.out.later hb12)
 have HB12:=Bx.mk (HB11.out.trans (hb12.mono HB11.out.size))
 clear hb12 hrf HS11 HB11
 go_wp2_with fail
 refine (HS12.out.len (k:=3) (by rw [sn2.2.2];rfl)).mono ?_
 rintro _ _ ⟨rfl,rfl⟩
 go_wp2_with fail
 refine (pnum_any _ _ _ _ _ _ HS12.out.ps).mono ?_
 rintro _ _ ⟨rfl,rfl⟩
 go_wp2_with fail
 refine (hf0.out _).mono ?_
 rintro _ w13 ⟨rfl,hb13⟩
 have HS13:=Bx.mk (HS12.out.later hb13)
 have HB13:=Bx.mk (HB12.out.trans (hb13.mono HB12.out.size))
 clear hb13 HS12 HB12
 go_wp2_with fail
 refine (hfb.out _).mono ?_
 rintro _ w14 ⟨rfl,hb14⟩
 have HS14:=Bx.mk (HS13.out.later hb14)
 have HB14:=Bx.mk (HB13.out.trans (hb14.mono HB13.out.size))
 clear hb14 HS13 HB13
 go_upto_region 13 with fail
 have htr:=Bx.mk (trip_any w14 dp g mb 20 (0+20+40) sd1 HS14.out.dk 2 (by omega))
 go_upto_region 14 with (go_at_call 15;refine htr.out.mono ?_;rintro _ w15 ⟨rfl,hd15,hc15⟩)
 have HS15:=Bx.mk (show St w.heap.size w15 dp g mb 20 pp (0+20+40) sd2 1 bv false from HS14.out.disk hd15 (DkIs.chgP hc15))
 have HB15:=Bx.mk (HB14.out.trans (HS14.out.below (DkIs.chgP hc15) HB14.out.size))
 clear hd15 hc15 htr HS14 HB14
 go_wp2_with fail
 refine (hwb.out 0 _).mono ?_
 rintro _ w16 ⟨rfl,hb16⟩
 have hb17:Below w16.heap.size w16 (w16.alloc (.cells #[.int .i64 0,.string (strOfNums sb)] 69)):=(Below.refl _ _).alloc (Nat.le_refl _) _
 have hb18:=hb16.trans (hb17.mono hb16.size)
 have HS17:=Bx.mk (HS15.out.later hb18)
 have HB17:=Bx.mk (HB15.out.trans (hb18.mono HB15.out.size))
 have hwt:=Bx.mk (HS17.out.write (by decide) (by decide) (some ⟨w16.heap.size,0,none⟩) 1 sL2 (by rw [sn4.2.1];exact sn_b2) (slP_one w16.heap.size 0 sb _ (heap_alloc_new _ _)) (show sd2.run (stepsP (1+1) sL2)=(sd3,20) from Prod.ext rfl sn4.1) HB17.out.size)
 clear hb16 hb17 hb18 HS15 HB15
 go_upto_region 15 with (go_at_call 24;refine hwt.out.mono ?_;rintro _ w19 ⟨rfl,hs19,hb19⟩)
 have HS19:=Bx.mk (show St w.heap.size w19 dp g mb 20 pp (0+20+40+40) sd3 1 bv true from hs19)
 have HB19:=Bx.mk (HB17.out.trans hb19)
 clear hs19 hb19 hwt HS17 HB17
 have hr:=Bx.mk (HS19.out.read 0 (by omega) sn5)
 go_upto_region 16 with (go_at_call 21;refine hr.out.mono ?_;rintro _ w20 ⟨rfl,hb20⟩)
 have HS20:=Bx.mk (HS19.out.later hb20)
 have HB20:=Bx.mk (HB19.out.trans (hb20.mono HB19.out.size))
 clear hb20 hr HS19 HB19
 have hb21:Below w20.heap.size w20 (w20.alloc (.cells #[.int .i64 0,.int .i64 0,.int .i64 0] 3)):=(Below.refl _ _).alloc (Nat.le_refl _) _
 have HS21:=Bx.mk (HS20.out.later hb21)
 have HB21:=Bx.mk (HB20.out.trans (hb21.mono HB20.out.size))
 have hsl:Sl (w20.alloc (.cells #[.int .i64 0,.int .i64 0,.int .i64 0] 3)) .i64 (some ⟨w20.heap.size,0,none⟩) [0,0,0]:=fun i x hx=>⟨_,0,rfl,by
  match i,hx with
  | 0,hx=>obtain rfl:=Option.some.inj hx;exact cells_new _ _ _ _ _ rfl
  | 1,hx=>obtain rfl:=Option.some.inj hx;exact cells_new _ _ _ _ _ rfl
  | 2,hx=>obtain rfl:=Option.some.inj hx;exact cells_new _ _ _ _ _ rfl⟩
 have hmt:=Bx.mk (mount_any _ dp g mb 20 _ sd3 HS21.out.dk (some ⟨w20.heap.size,0,none⟩) 3 [0,0,0] (by decide) hsl (fun b o e _ h3=>by
  simp only [Option.some.injEq,Addr.mk.injEq,and_true] at e
  have h1:=HS20.out.dk.lt
  rcases h3 with h3 | h3 | h3 <;> omega))
 clear hb21 hsl HS20 HB20
 go_upto_region 17 with (go_at_call 30;refine hmt.out.mono ?_;rintro _ w22 ⟨rfl,hd22,hc22⟩)
 have hd4:DkIs w22 dp g mb 20 (0+20+40+40) sd4:=hd22
 have HB22:=Bx.mk (HB21.out.trans (HS21.out.below hc22 HB21.out.size))
 have hop:=Bx.mk (St.open_ hd4 HLO.out (by rw [sn6.2.1];decide) sn6.1 (by decide) (d':=sd5) (Prod.ext rfl sn6.2.2.1) HB22.out.size)
 rw [sn6.2.2.2] at hop
 clear hd22 hd4 hc22 HS21 HB21 hmt
 go_upto_region 20 with (go_at_call 17;refine hop.out.mono ?_;rintro _ w23 ⟨pq,bw,rfl,hst23,-,-,hc23⟩)
 have HS23:=Bx.mk hst23
 have HB23:=Bx.mk (HB22.out.trans (hc23.below HB22.out.size fun k hk hS=>by have:=HLO.out k hS;omega))
 clear hst23 hc23 hop HB22
 have hr:=Bx.mk (HS23.out.read 0 (by omega) sn7)
 go_upto_region 21 with (go_at_call 21;refine hr.out.mono ?_;rintro _ w24 ⟨rfl,hb24⟩)
 have HS24:=Bx.mk (HS23.out.later hb24)
 have HB24:=Bx.mk (HB23.out.trans (hb24.mono HB23.out.size))
 clear hb24 hr HS23 HB23
 go_wp2_with fail
 refine (hfa.out _).mono ?_
 rintro _ w25 ⟨rfl,hb25⟩
 have HS25:=Bx.mk (HS24.out.later hb25)
 have HB25:=Bx.mk (HB24.out.trans (hb25.mono HB24.out.size))
 clear hb25 HS24 HB24
 have hro:=rot_any w25 dp g mb 20 _ sd5 HS25.out.dk 19 77
 rw [show sd5.rot 19 77=(sd6,0) from Prod.ext rfl sn8.1] at hro
 replace hro:=Bx.mk hro
 go_upto_region 23 with (go_at_call 27;refine hro.out.mono ?_;rintro _ w26 ⟨rfl,hd26,hc26⟩)
 have HS26:=Bx.mk (HS25.out.disk hd26 hc26)
 have HB26:=Bx.mk (HB25.out.trans (HS25.out.below hc26 HB25.out.size))
 clear hd26 hc26 hro HS25 HB25
 have hr:=Bx.mk (HS26.out.read 2 (by omega) sn8.2)
 go_upto_region 24 with (go_at_call 21;refine hr.out.mono ?_;rintro _ w27 ⟨rfl,hb27⟩)
 have HS27:=Bx.mk (HS26.out.later hb27)
 have HB27:=Bx.mk (HB26.out.trans (hb27.mono HB26.out.size))
 clear hb27 hr HS26 HB26
 have hop:=Bx.mk (St.open_ HS27.out.dk HLO.out (by rw [sn9.2.1];decide) sn9.1 (by decide) (d':=sd7) (Prod.ext rfl sn9.2.2.1) HB27.out.size)
 rw [show sd6.p.length - 17=3 by rw [sn9.2.1],sn9.2.2.2] at hop
 go_upto_region 27 with (go_at_call 17;refine hop.out.mono ?_;rintro _ w28 ⟨ps,bx,rfl,hst28,hbad28,-,hc28⟩)
 have HS28:=Bx.mk hst28
 have HB28:=Bx.mk (HB27.out.trans (hc28.below HB27.out.size fun k hk hS=>by have:=HLO.out k hS;omega))
 obtain ⟨ba,bc,rfl,hbs⟩:=hbad28.form
 have HBS:=Bx.mk hbs
 clear hst28 hc28 hop hbad28 hbs HS27 HB27
 have hr:=Bx.mk (HS28.out.read 2 (by omega) sn10)
 go_upto_region 28 with (go_at_call 21;refine hr.out.mono ?_;rintro _ w29 ⟨rfl,hb29⟩)
 have HS29:=Bx.mk (HS28.out.later hb29)
 have HB29:=Bx.mk (HB28.out.trans (hb29.mono HB28.out.size))
 clear hb29 hr HS28 HB28
 go_wp2_with fail
 refine (hfb.out _).mono ?_
 rintro _ w30 ⟨rfl,hb30⟩
 have HS30:=Bx.mk (HS29.out.later hb30)
 have HB30:=Bx.mk (HB29.out.trans (hb30.mono HB29.out.size))
 clear hb30 HS29 HB29
 have hpb:=Bx.mk (pbad_any w30 ps dp _ ba bc [] false HS30.out.ps (fun i x hx=>by simp [ints64] at hx) (by decide))
 go_upto_region 29 with (go_at_call 20;refine hpb.out.mono ?_;rintro _ w31 ⟨v31,rfl,hown31,hb31⟩;obtain ⟨a31,c31,rfl,-⟩:=hown31.form)
 have HB31:=Bx.mk (HB30.out.trans (hb31.mono HB30.out.size))
 clear hb31 hown31 hpb HS30 HB30 HBS
 go_wp2_with fail
 refine (hfx.out _).mono ?_
 rintro _ w32 ⟨rfl,hb32⟩
 have HB32:=Bx.mk (HB31.out.trans (hb32.mono HB31.out.size))
 clear hb32 HB31
 have hse:=seal_any 7 sx sx_byts.2 (by rw [sx_byts.1];decide) w32
 rw [sn_x.1] at hse
 replace hse:=Bx.mk hse
 go_wp2_with fail
 refine hse.out.mono ?_
 rintro _ w33 ⟨rfl,hb33⟩
 have HB33:=Bx.mk (HB32.out.trans (hb33.mono HB32.out.size))
 have hus:=unseal_any (sealP 7 sx) (byts_seal sx_byts.2) (by rw [sn_x.2.1];decide) w33
 rw [sn_x.2.2] at hus
 replace hus:=Bx.mk hus
 clear hb33 HB32 hse
 go_upto_region 30 with (go_at_call 8;refine hus.out.mono ?_;rintro _ w34 ⟨rfl,hb34⟩)
 have HB34:=Bx.mk (HB33.out.trans (hb34.mono HB33.out.size))
 clear hb34 hus HB33
 have hc1:=crc_any [49,50,51,52,53,54,55,56,57] (by intro x hx;simp only [List.mem_cons,List.not_mem_nil,or_false] at hx;omega) (by decide) w34
 rw [sn_crc.1,show strOfNums [49,50,51,52,53,54,55,56,57]=(⟨#[49,50,51,52,53,54,55,56,57]⟩:ByteArray) by rfl] at hc1
 replace hc1:=Bx.mk hc1
 go_wp2_with fail
 refine hc1.out.mono ?_
 rintro _ w35 ⟨rfl,hb35⟩
 have HB35:=Bx.mk (HB34.out.trans (hb35.mono HB34.out.size))
 have hc2:=crc_any [] (by intro x hx;cases hx) (by decide) w35
 rw [sn_crc.2,show strOfNums []=(⟨#[]⟩:ByteArray) by rfl] at hc2
 replace hc2:=Bx.mk hc2
 clear hb35 hc1 HB34
 go_wp2_with fail
 refine hc2.out.mono ?_
 rintro _ w36 ⟨rfl,hb36⟩
 have HB36:=Bx.mk (HB35.out.trans (hb36.mono HB35.out.size))
 clear hb36 hc2 HB35
 go_wp2_with fail
 refine (hfx.out _).mono ?_
 rintro _ w37 ⟨rfl,hb37⟩
 have HB37:=Bx.mk (HB36.out.trans (hb37.mono HB36.out.size))
 clear hb37 HB36
 go_wp2_with fail
 go_ret
 exact ⟨rfl,HB37.out⟩
end
end Go.Proofs.Ytajhkncolbgkbaa
