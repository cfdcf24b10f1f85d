/- Prc, Prs, Pru, Pwt: joined by program, for one claim. -/
import Derived.Test.YtajhkncolbgkbaaM4
import Derived.Laws.ResultCell
import Derived.Test.YtajhkncolbgkbaaM9
set_option linter.unusedVariables false
set_option linter.unusedSimpArgs false
namespace Go.Proofs.Ytajhkncolbgkbaa
section
open Go.RowKit Go.Sort Go.Maps
set_option maxRecDepth 100000 in
set_option maxHeartbeats 2000000 in
theorem rcrc_any (t:List Int) (hb:Byts t) (hl:t.length≤100000) (w:World) :
 Calls Try.prog 11 #[.string (strOfNums t)] w fun e w'=>e = .returned (.int .i64 (crcV t:Nat))∧Below w.heap.size w w':=by
 obtain ⟨n,hn⟩ : ∃ n,n=t.length:=⟨_,rfl⟩
 have hsz:(strOfNums t).size=n:=by rw [strOfNums_size,hn]
 rw [←hn] at hl
 have Hn:=Bx.mk hn
 have Hb:=Bx.mk hb
 clear hn hb
 go_enter Try.func11,Try.ntmps11
 go_wp2_with fail
 go_loopw [3,4] (fun v3 v4 wr => ∃ k:Nat,k≤n∧v4 = .int .i64 k∧v3 = .int .i64 (crcT (t.take k) 4294967295:Nat)∧Bx (Below w.heap.size w wr)) (fun _ i _=>n - (intOf i).toNat)
 case atStart=>exact ⟨0,Nat.zero_le _,rfl,by simp [crcT],⟨Below.refl _ _⟩⟩
 case round =>
  obtain ⟨k,hk,rfl,rfl,HW⟩:=hrel
  have hc:=crcT_lt (l:=t.take k) (fun x hx=>Hb.out x (List.mem_of_mem_take hx)) (c:=4294967295) (by decide)
  by_cases hlt:k<n
  · have t0:decide ((k:Int)<(n:Int))=true:=by simp;omega
    obtain ⟨x,hx⟩ : ∃ x,t[k]? = some x:=⟨_,List.getElem?_eq_getElem (by rw [←Hn.out];exact hlt)⟩
    have hxb:=Hb.out x (List.mem_of_getElem? hx)
    obtain ⟨hk2,hget⟩:=str_get Hb.out hx
    have hT:=Bx.mk (crcT_take hx 4294967295)
    have hin:=crc_in hc hxb
    have hx8:IntKind.i64.wrap x=x:=IntWalk.i64_in _ (by omega)
    have hlt32:crcT (t.take k) 4294967295 ^^^ x.toNat<2 ^ 32:=Nat.xor_lt_two_pow hc (by omega)
    have hB:Bx (crcT (t.take (k+1)) 4294967295=crcR 8 (crcT (t.take k) 4294967295 ^^^ x.toNat)):=⟨by rw [hT.out];rfl⟩
    clear hT hx hc
    generalize crcT (t.take k) 4294967295=cc at *
    obtain ⟨c1,hc1⟩ : ∃ c1,c1=cc ^^^ x.toNat:=⟨_,rfl⟩
    rw [←hc1] at hB hin hlt32
    clear hc1
    have b1:(0:Int)≤(k:Int):=by omega
    have b2:(k:Int)<(n:Int):=by omega
    go_wp2_with fail
    clear hin hk2 hget
    go_loopw [3,5] (fun v3 v5 wr => ∃ j:Nat,j≤8∧v5 = .int .i64 j∧v3 = .int .i64 (crcR j c1:Nat)∧Bx (Below w.heap.size w wr)) (fun _ i _=>8 - (intOf i).toNat)
    case atStart=>exact ⟨0,Nat.zero_le _,rfl,rfl,HW⟩
    case round =>
     clear HW
     obtain ⟨j,hj,rfl,rfl,HW⟩:=hrel
     by_cases hjl:j<8
     · have t1:decide ((j:Int)<8)=true:=by simp;omega
       have hcj:=crcR_lt j hlt32
       have hs:=Bx.mk (crcR_succ j c1)
       generalize crcR j c1=cj at *
       by_cases ho:cj % 2=1
       · have hp:=crc_ref1 hcj ho
         have m1:(cj:Int) % 2=1:=by omega
         have m2:(cj:Int).tmod 2=1:=by rw [Int.tmod_eq_emod_of_nonneg (by omega)];exact m1
         go_wp2_with fail
         go_roundw
         case rel=>exact ⟨j+1,by omega,by go_num,by rw [hs.out],HW⟩
         case measure=>simp [intOf];omega
       · have hp:=crc_ref0 ho
         have m1:(cj:Int) % 2=0:=by omega
         have m2:(cj:Int).tmod 2=0:=by rw [Int.tmod_eq_emod_of_nonneg (by omega)];exact m1
         have hs2:Bx ((cj:Int) / 2=((crcR (j+1) c1:Nat):Int)):=⟨by rw [hs.out];exact hp⟩
         clear hp
         go_wp2_with fail
         go_roundw
         case rel=>exact ⟨j+1,by omega,by go_num,by rw [←hs2.out],HW⟩
         case measure=>simp [intOf];omega
     · obtain rfl:j=8:=by omega
       have t1:decide (((8:Nat):Int)<8)=false:=by decide
       go_wp2_with fail
       go_roundw
       case rel=>exact ⟨k+1,by omega,by go_num,by rw [hB.out],HW⟩
       case measure=>simp [intOf];omega
  · obtain rfl:k=n:=by omega
    have t0:decide ((k:Int)<(k:Int))=false:=by simp
    have e:Bx (t.take k=t):=⟨List.take_of_length_le (by rw [←Hn.out];exact Nat.le_refl _)⟩
    rw [e.out] at hc ⊢
    have hx:4294967295 - ((crcT t 4294967295:Nat):Int)=((crcV t:Nat):Int):=xor_full hc
    generalize crcT t 4294967295=ct at *
    have hw:IntKind.i64.wrap (4294967295 - (ct:Int))=4294967295 - (ct:Int):=IntWalk.i64_in _ (by omega)
    rw [hx] at hw
    go_wp2_with fail
    go_ret
    exact ⟨by first | rfl | rw [hx],HW.out⟩
set_option maxRecDepth 100000 in
set_option maxHeartbeats 1000000 in
theorem rfour_any (n:Nat) (w:World) (hn:n<2 ^ 62):Calls Try.prog 34 #[.int .i64 (n:Int)] w fun e w'=>e = .returned (.string (strOfNums (fourP n)))∧Below w.heap.size w w':=by
 obtain ⟨a,ha⟩ : ∃ a:Int,a=((n % 256:Nat):Int):=⟨_,rfl⟩
 obtain ⟨b,hb⟩ : ∃ a:Int,a=((n / 256 % 256:Nat):Int):=⟨_,rfl⟩
 obtain ⟨c,hc⟩ : ∃ a:Int,a=((n / 65536 % 256:Nat):Int):=⟨_,rfl⟩
 obtain ⟨d,hd⟩ : ∃ a:Int,a=((n / 16777216 % 256:Nat):Int):=⟨_,rfl⟩
 have f1:IntKind.u8.wrap (n:Int)=a:=by rw [IntKind.wrap_u8,ha];omega
 have f2:IntKind.u8.wrap ((n:Int) / 256)=b:=by rw [IntKind.wrap_u8,hb];omega
 have f3:IntKind.u8.wrap ((n:Int) / 65536)=c:=by rw [IntKind.wrap_u8,hc];omega
 have f4:IntKind.u8.wrap ((n:Int) / 16777216)=d:=by rw [IntKind.wrap_u8,hd];omega
 have hfp:fourP n=[a,b,c,d]:=by unfold fourP;rw [ha,hb,hc,hd]
 rw [hfp]
 have hsl:Sl (w.alloc (.cells #[.int .u8 a,.int .u8 b,.int .u8 c,.int .u8 d] 5)) .u8 (some ⟨w.heap.size,0,none⟩) [a,b,c,d]:=fun i x hx=>⟨w.heap.size,0,rfl,by
  have hk:Bk (w.alloc (.cells #[.int .u8 a,.int .u8 b,.int .u8 c,.int .u8 d] 5)) w.heap.size #[.int .u8 a,.int .u8 b,.int .u8 c,.int .u8 d] 5:=Bk.new _ _ _
  rw [Nat.zero_add]
  match i,hx with
  | 0,hx=>obtain rfl:=Option.some.inj hx;exact hk.cell 0 rfl
  | 1,hx=>obtain rfl:=Option.some.inj hx;exact hk.cell 1 rfl
  | 2,hx=>obtain rfl:=Option.some.inj hx;exact hk.cell 2 rfl
  | 3,hx=>obtain rfl:=Option.some.inj hx;exact hk.cell 3 rfl
  | i+4,hx=>cases hx⟩
 have hcv:=conv_str (P:=Try.prog) 66 5 9 Try.underlying66 Try.underlying5 Try.underlying9 hsl 4 4 rfl
 clear hsl hfp ha hb hc hd
 go_enter Try.func34,Try.ntmps34
 go_wp2_with fail
 go_ret
 exact ⟨rfl,(Below.refl _ _).alloc (Nat.le_refl _) _⟩
set_option maxRecDepth 100000 in
set_option maxHeartbeats 1000000 in
theorem rblank_any (w:World):Calls Try.prog 28 #[] w fun e w'=>e = .returned (.string (strOfNums (zerosP 128)))∧Below w.heap.size w w':=by
 have hmk : ∀ W,(Instr.makeSlice 66 (.int .i64 128) (.int .i64 128)).run Try.prog W = .ok (.slice (some ⟨W.heap.size,0,none⟩) 128 128) (W.alloc (.cells (madeCells #[.int .u8 0] 128) 5)) :=
  fun W=>run_make_row' (P:=Try.prog) 66 5 (.int .u8 0) 1 Try.underlying66 (by kernel_rfl) rfl .i64 .i64 128 (by omega) (by omega) W
 have hrow:(w.alloc (.cells (madeCells #[.int .u8 0] 128) 5)).rowIs w.heap.size 5 128 (fun _=>.int .u8 0):=World.rowIs_made _ _ _ _
 have hsl:Sl (w.alloc (.cells (madeCells #[.int .u8 0] 128) 5)) .u8 (some ⟨w.heap.size,0,none⟩) (zerosP 128):=fun i x hx=>⟨w.heap.size,0,rfl,by
  have hi:i<128:=by have:=(List.getElem?_eq_some_iff.1 hx).1;simpa [zerosP] using this
  rw [Nat.zero_add]
  have hx0:x=0:=by
   have:=List.mem_of_getElem? hx
   exact List.eq_of_mem_replicate this
  rw [hx0]
  exact hrow.cell hi⟩
 have hcv:=conv_str (P:=Try.prog) 66 5 9 Try.underlying66 Try.underlying5 Try.underlying9 hsl 128 128 (by simp [zerosP])
 clear hsl hrow
 go_enter Try.func28,Try.ntmps28
 go_wp2_with fail
 go_ret
 exact ⟨rfl,(Below.refl _ _).alloc (Nat.le_refl _) _⟩
end
section
open Go.RowKit Go.Sort Go.Maps
set_option maxRecDepth 100000 in
set_option maxHeartbeats 1000000 in
theorem rseal_any (n:Int) (d:List Int) (hb:Byts d) (hl:d.length≤10000) (w:World) :
 Calls Try.prog 13 #[.int .i64 n,.string (strOfNums d)] w fun e w'=>e = .returned (.string (strOfNums (sealV n d)))∧Below w.heap.size w w':=by
 have hsz:(strOfNums d).size=d.length:=strOfNums_size d
 by_cases hok:1≤n∧n≤1073741824∧d.length=116
 · obtain ⟨h1,h2,h3⟩:=hok
   have hv:sealV n d=sealP n.toNat d:=by unfold sealV;rw [if_pos ⟨h1,h2,h3⟩]
   obtain ⟨m,rfl⟩ : ∃ m:Nat,n=(m:Int):=⟨n.toNat,by omega⟩
   rw [Int.toNat_natCast] at hv
   have t0:decide ((m:Int)<1)=false:=by simp;omega
   have t1:decide ((m:Int) > 1073741824)=false:=by simp;omega
   have t1b:decide (1073741824<m)=false:=by simp;omega
   rw [h3] at hsz
   have hb2:Byts (fourP m++d):=fun x hx=>by
    rcases List.mem_append.1 hx with h | h
    · exact byts_four m x h
    · exact hb x h
   have hcr:=Bx.mk fun W=>rcrc_any (fourP m++d) hb2 (by simp [four_len];omega) W
   have a1:strOfNums (fourP m)++strOfNums d=strOfNums (fourP m++d):=str_append _ _
   have a2:strOfNums (fourP m++d)++strOfNums (fourP (crcV (fourP m++d)))=strOfNums (fourP m++d++fourP (crcV (fourP m++d))):=str_append _ _
   have a3:strOfNums (fourP m++d++fourP (crcV (fourP m++d)))++strOfNums (fourP m)=strOfNums (sealV (m:Int) d):=by rw [hv];exact str_append _ _
   have z1:(strOfNums (fourP m)).size=4:=by rw [strOfNums_size];rfl
   have z2:(strOfNums (fourP m++d)).size=120:=by rw [strOfNums_size,List.length_append,h3,four_len]
   have z3:(strOfNums (fourP (crcV (fourP m++d)))).size=4:=by rw [strOfNums_size];rfl
   have z4:(strOfNums (fourP m++d++fourP (crcV (fourP m++d)))).size=124:=by rw [strOfNums_size,List.length_append,List.length_append,h3,four_len,four_len]
   have hb4:=Bx.mk fun W=>rfour_any m W (by omega)
   have hcl:=crcV_lt hb2
   have hb5:=Bx.mk fun W=>rfour_any (crcV (fourP m++d)) W (by omega)
   clear hb2 hv hb hcl
   generalize strOfNums (sealV (m:Int) d)=R at *
   generalize strOfNums (fourP m++d++fourP (crcV (fourP m++d)))=S3 at *
   generalize strOfNums (fourP (crcV (fourP m++d)))=S2 at *
   generalize crcV (fourP m++d)=cv at *
   generalize strOfNums (fourP m++d)=S1 at *
   generalize strOfNums (fourP m)=S4 at *
   generalize strOfNums d=Sd at *
   go_enter Try.func13,Try.ntmps13
   go_wp2_with fail
   refine (hb4.out _).mono ?_
   rintro _ w1 ⟨rfl,hw1⟩
   have HB1:=Bx.mk hw1
   clear hw1
   go_wp2_with fail
   refine (hcr.out _).mono ?_
   rintro _ w2 ⟨rfl,hw2⟩
   have HB2:=Bx.mk (HB1.out.trans (hw2.mono HB1.out.size))
   clear hw2
   go_wp2_with fail
   refine (hb5.out _).mono ?_
   rintro _ w3 ⟨rfl,hw3⟩
   have HB3:=Bx.mk (HB2.out.trans (hw3.mono HB2.out.size))
   clear hw3
   go_wp2_with fail
   refine (hb4.out _).mono ?_
   rintro _ w4 ⟨rfl,hw4⟩
   have HB4:=Bx.mk (HB3.out.trans (hw4.mono HB3.out.size))
   clear hw4
   go_wp2_with fail
   go_ret
   exact ⟨rfl,HB4.out⟩
 · have hv:sealV n d=[]:=by unfold sealV;rw [if_neg hok]
   rw [hv]
   have he:strOfNums []=⟨#[]⟩:=rfl
   rw [he]
   obtain ⟨l,hln⟩ : ∃ l,l=d.length:=⟨_,rfl⟩
   rw [←hln] at hok hsz
   generalize strOfNums d=Sd at *
   clear hv he hb hln hl
   by_cases h1:n<1
   · have t0:decide (n<1)=true:=by simpa using h1
     go_enter Try.func13,Try.ntmps13
     go_wp2_with fail
     go_ret
     exact ⟨rfl,Below.refl _ _⟩
   · have t0:decide (n<1)=false:=by simpa using h1
     by_cases h2:n > 1073741824
     · have t1:decide (n > 1073741824)=true:=by simpa using h2
       go_enter Try.func13,Try.ntmps13
       go_wp2_with fail
       go_ret
       exact ⟨rfl,Below.refl _ _⟩
     · have t1:decide (n > 1073741824)=false:=by simpa using h2
       have h3 : ¬l=116:=fun h=>hok ⟨by omega,by omega,h⟩
       have t2:((l:Int) != 116)=true:=by simp;omega
       have t2b:((l:Int) == 116)=false:=by simp;omega
       have t2c:decide ((l:Int)=116)=false:=by simp;omega
       have t2d : ¬(l:Int)=116:=by omega
       clear hok
       go_enter Try.func13,Try.ntmps13
       go_wp2_with fail
       go_ret
       exact ⟨rfl,Below.refl _ _⟩
set_option maxRecDepth 100000 in
set_option maxHeartbeats 1000000 in
theorem full_any (c:Int) (_hc:0≤c∧c≤255) (k:Nat) (hk:k≤1000) (w:World) :
 Calls Try.prog 22 #[.int .u8 c,.int .i64 (k:Int)] w fun e w'=>e = .returned (.string (strOfNums (List.replicate k c)))∧Below w.heap.size w w':=by
 have hmk : ∀ W,(Instr.makeSlice 66 (.int .i64 (k:Int)) (.int .i64 (k:Int))).run Try.prog W = .ok (.slice (some ⟨W.heap.size,0,none⟩) k k) (W.alloc (.cells (madeCells #[.int .u8 0] k) 5)) :=
  fun W=>run_make_row' (P:=Try.prog) 66 5 (.int .u8 0) 1 Try.underlying66 (by kernel_rfl) rfl .i64 .i64 k (by omega) (by omega) W
 go_enter Try.func22,Try.ntmps22
 go_wp2_with fail
 clear hmk
 go_loopw [6] (fun i wr => ∃ j:Nat,j≤k∧i = .int .i64 j∧Bx (wr.rowIs w.heap.size 5 k (fun a=>.int .u8 (if a<j then c else 0)))∧Bx (Below w.heap.size w wr)) (fun i _=>k - (intOf i).toNat)
 case atStart=>exact ⟨0,Nat.zero_le _,rfl,⟨(World.rowIs_made _ _ _ _).congr (fun i _=>rfl)⟩,⟨(Below.refl _ _).alloc (Nat.le_refl _) _⟩⟩
 case round =>
  obtain ⟨j,hj,rfl,hrow,hB⟩:=hrel
  by_cases hlt:j<k
  · have t0:decide ((j:Int)<(k:Int))=true:=by simp;omega
    have b1:(0:Int)≤(j:Int):=by omega
    have b2:(j:Int)<(k:Int):=by omega
    have hcell:=hrow.out.cell hlt
    have hfr:=hrow.out.frozen j
    go_wp2_with fail
    have hrow2:=Bx.mk ((hrow.out.set j (.int .u8 c)).congr (g:=fun a=>.int .u8 (if a<j+1 then c else 0)) (fun a ha=>by
     by_cases e:a=j
     · rw [e];simp only [if_true];rw [if_pos (by omega)]
     · simp only [e,if_false];by_cases h5:a<j
       · rw [if_pos h5,if_pos (by omega)]
       · rw [if_neg h5,if_neg (by omega)]))
    have hB2:=Bx.mk (show Below w.heap.size w (wr.setCell ⟨w.heap.size,j,none⟩ (.int .u8 c)) from hB.out.setCell (Nat.le_refl _) _)
    clear hcell hfr
    go_roundw
    case rel=>exact ⟨j+1,by omega,by go_num,hrow2,hB2⟩
    case measure=>simp [intOf];omega
  · obtain rfl:j=k:=by omega
    have t0:decide ((j:Int)<(j:Int))=false:=by simp
    have hsl:Sl wr .u8 (some ⟨w.heap.size,0,none⟩) (List.replicate j c):=fun i x hx=>⟨w.heap.size,0,rfl,by
     have hi:i<j:=by have:=(List.getElem?_eq_some_iff.1 hx).1;simpa using this
     have:=hrow.out.cell hi
     simp only [hi,if_true] at this
     rw [Nat.zero_add,this]
     rw [List.eq_of_mem_replicate (List.mem_of_getElem? hx)]⟩
    have hcv:=conv_str (P:=Try.prog) 66 5 9 Try.underlying66 Try.underlying5 Try.underlying9 hsl j j (by simp)
    clear hsl hrow
    go_wp2_with fail
    go_ret
    exact ⟨rfl,hB.out⟩
def runV (p:List Int):Value:=.agg #[.int .i64 (numOf p:Nat),.string (strOfNums (datOf p)),.bool (decide (goodP p))]
theorem num_sum {p:List Int} (h:p.length=128) (hb:Byts p) : ∃ a b c d:Nat,p[0]? = some (a:Int)∧p[1]? = some (b:Int)∧p[2]? = some (c:Int)∧p[3]? = some (d:Int)∧a≤255∧b≤255∧c≤255∧d≤255∧numP p=a+b * 256+c * 65536+d * 16777216:=by
 match p,h with
 | x0 :: x1 :: x2 :: x3 :: r, _ =>
   have h0:=hb x0 (by simp)
   have h1:=hb x1 (by simp)
   have h2:=hb x2 (by simp)
   have h3:=hb x3 (by simp)
   refine ⟨x0.toNat,x1.toNat,x2.toNat,x3.toNat,?_,?_,?_,?_,by omega,by omega,by omega,by omega,?_⟩
   · simp;omega
   · simp;omega
   · simp;omega
   · simp;omega
   · simp [numP];omega
end
section
open Go.RowKit Go.Sort Go.Maps
theorem bk3p {w:World} {g:Nat} {x0 x1 x2:Value} {t:TypeId} (h:Bk w g #[x0,x1,x2] t) (a b c:Value):Bk (((w.setCell ⟨g,0,none⟩ a).setCell ⟨g,1,none⟩ b).setCell ⟨g,2,none⟩ c) g #[a,b,c] t:=by
 simpa using ((h.set 0 a).set 1 b).set 2 c
set_option maxRecDepth 100000 in
set_option maxHeartbeats 2000000 in
theorem runseal_any (p:List Int) (hb:Byts p) (hl:p.length≤10000) (w:World) :
 Calls Try.prog 9 #[.string (strOfNums p)] w fun e w'=>e = .returned (runV p)∧Below w.heap.size w w':=by
 have hsz:(strOfNums p).size=p.length:=strOfNums_size p
 by_cases h128:p.length=128
 · have x116:strOfNums (dataP p)=(strOfNums p).extract 4 120:=(str_extract p 4 120).symm
   obtain ⟨a,b,c,d,p0,p1,p2,p3,la,lb,lc,ld,hnum⟩:=num_sum h128 hb
   have i0 : ∀ W:World,(Instr.index 9 (.string (strOfNums p)) (.int .i64 0)).run Try.prog W = .ok (.int .u8 (a:Int)) W:=fun W=>idx_str (P:=Try.prog) 9 Try.underlying9 hb p0 W
   have i1 : ∀ W:World,(Instr.index 9 (.string (strOfNums p)) (.int .i64 1)).run Try.prog W = .ok (.int .u8 (b:Int)) W:=fun W=>idx_str (P:=Try.prog) 9 Try.underlying9 hb p1 W
   have i2 : ∀ W:World,(Instr.index 9 (.string (strOfNums p)) (.int .i64 2)).run Try.prog W = .ok (.int .u8 (c:Int)) W:=fun W=>idx_str (P:=Try.prog) 9 Try.underlying9 hb p2 W
   have i3 : ∀ W:World,(Instr.index 9 (.string (strOfNums p)) (.int .i64 3)).run Try.prog W = .ok (.int .u8 (d:Int)) W:=fun W=>idx_str (P:=Try.prog) 9 Try.underlying9 hb p3 W
   have f0:IntKind.i64.wrap (a:Int)=(a:Int):=IntWalk.i64_in _ (by omega)
   have f1:IntKind.i64.wrap (b:Int)=(b:Int):=IntWalk.i64_in _ (by omega)
   have f2:IntKind.i64.wrap (c:Int)=(c:Int):=IntWalk.i64_in _ (by omega)
   have f3:IntKind.i64.wrap (d:Int)=(d:Int):=IntWalk.i64_in _ (by omega)
   obtain ⟨B,hB⟩ : ∃ x:Int,x=(b:Int) * 256:=⟨_,rfl⟩
   obtain ⟨C,hC⟩ : ∃ x:Int,x=(c:Int) * 65536:=⟨_,rfl⟩
   obtain ⟨D,hD⟩ : ∃ x:Int,x=(d:Int) * 16777216:=⟨_,rfl⟩
   have g1:IntKind.i64.wrap ((b:Int) * 256)=B:=by rw [hB];exact IntWalk.i64_in _ (by omega)
   have g2:IntKind.i64.wrap ((c:Int) * 65536)=C:=by rw [hC];exact IntWalk.i64_in _ (by omega)
   have g3:IntKind.i64.wrap ((d:Int) * 16777216)=D:=by rw [hD];exact IntWalk.i64_in _ (by omega)
   obtain ⟨S1,hS1⟩ : ∃ x:Int,x=(a:Int)+B:=⟨_,rfl⟩
   obtain ⟨S2,hS2⟩ : ∃ x:Int,x=S1+C:=⟨_,rfl⟩
   have h1:IntKind.i64.wrap ((a:Int)+B)=S1:=by rw [hS1];exact IntWalk.i64_in _ (by omega)
   have h2:IntKind.i64.wrap (S1+C)=S2:=by rw [hS2];exact IntWalk.i64_in _ (by omega)
   have h3:IntKind.i64.wrap (S2+D)=((numP p:Nat):Int):=by rw [show S2+D=((numP p:Nat):Int) by omega];exact IntWalk.i64_in _ (by omega)
   clear hB hC hD hS1 hS2 hnum p0 p1 p2 p3
   have hbd:Byts (dataP p):=fun x hx=>hb x (List.mem_of_mem_drop (List.mem_of_mem_take hx))
   have hse:=Bx.mk fun W=>rseal_any (numP p) (dataP p) hbd (by unfold dataP;simp;omega) W
   have hbl:=Bx.mk fun W=>rblank_any W
   rw [h128] at hsz
   have hgi:=good_iff h128
   have hi1:strOfNums p=strOfNums (sealV (numP p) (dataP p)) ↔ p=sealV (numP p) (dataP p):=⟨fun e=>strOfNums_inj hb (byts_sealV hbd) e,fun e=>congrArg _ e⟩
   have hi2:strOfNums p=strOfNums (zerosP 128) ↔ p=zerosP 128:=⟨fun e=>strOfNums_inj hb (byts_zeros 128) e,fun e=>congrArg _ e⟩
   rw [←hi1,←hi2] at hgi
   have hU:runV p = .agg #[.int .i64 ((if goodP p then numP p else 0:Nat):Int),.string (if goodP p then strOfNums (dataP p) else ⟨#[]⟩),.bool (decide (goodP p))]:=by
    unfold runV numOf datOf
    by_cases hg:goodP p
    · rw [if_pos hg,if_pos hg,if_pos hg]
    · rw [if_neg hg,if_neg hg,if_neg hg];rfl
   rw [hU]
   have HG:=Bx.mk hgi
   clear hgi hi1 hi2 hU hbd
   clear hb
   generalize strOfNums (sealV (numP p) (dataP p))=Ss at *
   generalize strOfNums (zerosP 128)=Sz at *
   rw [x116] at hse ⊢
   clear x116
   generalize hn:numP p=n at *
   clear hn
   obtain ⟨gd,hgd⟩ : ∃ b,b=decide (goodP p):=⟨_,rfl⟩
   have hgd2:goodP p ↔ gd=true:=by rw [hgd];simp
   have hU:(Value.agg #[.int .i64 ((if goodP p then n else 0:Nat):Int),.string (if goodP p then (strOfNums p).extract 4 120 else ⟨#[]⟩),.bool (decide (goodP p))])=(if gd=true then .agg #[.int .i64 (n:Int),.string ((strOfNums p).extract 4 120),.bool true] else .agg #[.int .i64 0,.string ⟨#[]⟩,.bool false]):=by
    rw [←hgd]
    by_cases hg:goodP p
    · rw [if_pos hg,if_pos hg,if_pos (hgd2.1 hg),hgd2.1 hg]
    · rw [if_neg hg,if_neg hg,if_neg (fun h=>hg (hgd2.2 h)),show gd=false by simpa using fun h=>hg (hgd2.2 h)];rfl
   rw [hU]
   have hG2:gd=true ↔ (strOfNums p=Ss∨strOfNums p=Sz):=hgd2.symm.trans HG.out
   clear hU hgd hgd2 HG
   generalize strOfNums p=Sp at *
   have HG:=Bx.mk hG2
   clear hG2 h128 hl la lb lc ld
   by_cases e2:Sp=Sz
   · have hg:gd=true:=HG.out.2 (.inr e2)
     have n2:(Sp.toList == Sz.toList)=true:=(strEq_iff _ _).2 e2
     rw [if_pos hg]
     clear HG hg e2 hse
     go_enter Try.func9,Try.ntmps9
     go_upto_region 3 with fail
     generalize hW:World.alloc w _=W
     have hB:=bl1 hW
     have kb:Bk W w.heap.size #[.int .i64 0,.string ⟨#[]⟩,.bool false] 26:=bk0 hW rfl
     clear hW
     refine wp_region_quiet_below (by kernel_rfl) (by kernel_rfl) ?_
     repeat (first | go_big_quiet_step (fail) | quiet_step (fail))
     refine wpQuiet_nil ?_
     rintro _ ⟨⟨dq,osq⟩,rfl⟩
     have HB1:=Bx.mk (hB.trans ((below_regrown W dq osq).mono hB.size))
     have KB1:=Bx.mk (kb.later (below_regrown W dq osq))
     generalize grow (redrawn W dq) osq=w1 at *
     clear hB kb i0 i1 i2 i3 f0 f1 f2 f3 g1 g2 g3 h1 h2 h3
     go_wp2_with fail
     refine (hbl.out _).mono ?_
     rintro _ w2 ⟨rfl,hw2⟩
     have HB2:=Bx.mk (HB1.out.trans (hw2.mono HB1.out.size))
     have KB2:=Bx.mk (KB1.out.later hw2)
     clear hw2 hbl HB1 KB1
     have c0:=KB2.out.cell 0 rfl;have c1:=KB2.out.cell 1 rfl;have c2:=KB2.out.cell 2 rfl
     have e0:=KB2.out.frozen 0;have e1:=KB2.out.frozen 1;have e2:=KB2.out.frozen 2
     go_wp2_with fail
     exact bodyPost_ret (v:=.agg #[.int .i64 (n:Int),.string (Sp.extract 4 120),.bool true]) (results_cell_row rfl _ _ w.heap.size 26 #[.int .i64 (n:Int),.string (Sp.extract 4 120),.bool true] (0,0) _ rfl (bk3p KB2.out _ _ _) Try.underlying26 rfl (by kernel_rfl)) rfl ⟨rfl,blw3 HB2.out (Nat.le_refl _) _ _ _⟩
   · have n2:(Sp.toList == Sz.toList)=false:=strNe e2
     by_cases e1:Sp=Ss
     · have hg:gd=true:=HG.out.2 (.inl e1)
       have n1:(Ss.toList == Sp.toList)=true:=(strEq_iff _ _).2 e1.symm
       rw [if_pos hg]
       clear HG hg e1 e2
       go_enter Try.func9,Try.ntmps9
       go_upto_region 3 with fail
       generalize hW:World.alloc w _=W
       have hB:=bl1 hW
       have kb:Bk W w.heap.size #[.int .i64 0,.string ⟨#[]⟩,.bool false] 26:=bk0 hW rfl
       clear hW
       refine wp_region_quiet_below (by kernel_rfl) (by kernel_rfl) ?_
       repeat (first | go_big_quiet_step (fail) | quiet_step (fail))
       refine wpQuiet_nil ?_
       rintro _ ⟨⟨dq,osq⟩,rfl⟩
       have HB1:=Bx.mk (hB.trans ((below_regrown W dq osq).mono hB.size))
       have KB1:=Bx.mk (kb.later (below_regrown W dq osq))
       generalize grow (redrawn W dq) osq=w1 at *
       clear hB kb i0 i1 i2 i3 f0 f1 f2 f3 g1 g2 g3 h1 h2 h3
       go_wp2_with fail
       refine (hbl.out _).mono ?_
       rintro _ w2 ⟨rfl,hw2⟩
       have HB2:=Bx.mk (HB1.out.trans (hw2.mono HB1.out.size))
       have KB2:=Bx.mk (KB1.out.later hw2)
       clear hw2 hbl HB1 KB1
       go_wp2_with fail
       refine (hse.out _).mono ?_
       rintro _ w3 ⟨rfl,hw3⟩
       have HB3:=Bx.mk (HB2.out.trans (hw3.mono HB2.out.size))
       have KB3:=Bx.mk (KB2.out.later hw3)
       clear hw3 hse HB2 KB2
       have c0:=KB3.out.cell 0 rfl;have c1:=KB3.out.cell 1 rfl;have c2:=KB3.out.cell 2 rfl
       have e0:=KB3.out.frozen 0;have e1:=KB3.out.frozen 1;have e2:=KB3.out.frozen 2
       go_wp2_with fail
       exact bodyPost_ret (v:=.agg #[.int .i64 (n:Int),.string (Sp.extract 4 120),.bool true]) (results_cell_row rfl _ _ w.heap.size 26 #[.int .i64 (n:Int),.string (Sp.extract 4 120),.bool true] (0,0) _ rfl (bk3p KB3.out _ _ _) Try.underlying26 rfl (by kernel_rfl)) rfl ⟨rfl,blw3 HB3.out (Nat.le_refl _) _ _ _⟩
     · have hg : ¬gd=true:=fun h=>by
        rcases HG.out.1 h with h | h
        · exact e1 h
        · exact e2 h
       have n1:(Ss.toList == Sp.toList)=false:=strNe fun e=>e1 e.symm
       rw [if_neg hg]
       clear HG hg e1 e2
       go_enter Try.func9,Try.ntmps9
       go_upto_region 3 with fail
       generalize hW:World.alloc w _=W
       have hB:=bl1 hW
       have kb:Bk W w.heap.size #[.int .i64 0,.string ⟨#[]⟩,.bool false] 26:=bk0 hW rfl
       clear hW
       refine wp_region_quiet_below (by kernel_rfl) (by kernel_rfl) ?_
       repeat (first | go_big_quiet_step (fail) | quiet_step (fail))
       refine wpQuiet_nil ?_
       rintro _ ⟨⟨dq,osq⟩,rfl⟩
       have HB1:=Bx.mk (hB.trans ((below_regrown W dq osq).mono hB.size))
       have KB1:=Bx.mk (kb.later (below_regrown W dq osq))
       generalize grow (redrawn W dq) osq=w1 at *
       clear hB kb i0 i1 i2 i3 f0 f1 f2 f3 g1 g2 g3 h1 h2 h3
       go_wp2_with fail
       refine (hbl.out _).mono ?_
       rintro _ w2 ⟨rfl,hw2⟩
       have HB2:=Bx.mk (HB1.out.trans (hw2.mono HB1.out.size))
       have KB2:=Bx.mk (KB1.out.later hw2)
       clear hw2 hbl HB1 KB1
       go_wp2_with fail
       refine (hse.out _).mono ?_
       rintro _ w3 ⟨rfl,hw3⟩
       have HB3:=Bx.mk (HB2.out.trans (hw3.mono HB2.out.size))
       have KB3:=Bx.mk (KB2.out.later hw3)
       clear hw3 hse HB2 KB2
       have c0:=KB3.out.cell 0 rfl;have c1:=KB3.out.cell 1 rfl;have c2:=KB3.out.cell 2 rfl
       have e0:=KB3.out.frozen 0;have e1:=KB3.out.frozen 1;have e2:=KB3.out.frozen 2
       go_wp2_with fail
       exact bodyPost_ret (v:=.agg #[.int .i64 0,.string ⟨#[]⟩,.bool false]) (results_cell_row rfl _ _ w.heap.size 26 #[.int .i64 0,.string ⟨#[]⟩,.bool false] (0,0) _ rfl (bk3p KB3.out _ _ _) Try.underlying26 rfl (by kernel_rfl)) rfl ⟨rfl,blw3 HB3.out (Nat.le_refl _) _ _ _⟩
 · have hg : ¬goodP p:=fun h=>h128 h.1
   have hU:runV p = .agg #[.int .i64 0,.string ⟨#[]⟩,.bool false]:=by
    unfold runV numOf datOf
    rw [if_neg hg,if_neg hg,decide_eq_false hg];rfl
   rw [hU]
   generalize p.length=l at *
   have t2:((l:Int) != 128)=true:=by simp;omega
   have t2b:((l:Int) == 128)=false:=by simp;omega
   have t2d : ¬(l:Int)=128:=by omega
   generalize strOfNums p=Sp at *
   clear hU hg hb hl
   go_enter Try.func9,Try.ntmps9
   go_wp2_with fail
   exact bodyPost_ret (v:=.agg #[.int .i64 0,.string ⟨#[]⟩,.bool false]) (results_cell_row rfl _ _ w.heap.size 26 #[.int .i64 0,.string ⟨#[]⟩,.bool false] (0,0) _ rfl (Bk.new _ _ _) Try.underlying26 rfl (by kernel_rfl)) rfl ⟨rfl,(Below.refl _ _).alloc (Nat.le_refl _) _⟩
end
section
open Go.RowKit Go.Sort Go.Maps
set_option maxRecDepth 100000 in
set_option maxHeartbeats 1000000 in
theorem lwrite_any (page c:Int) (hc:0≤c∧c≤255) (w:World) :
 Calls Try.prog 29 #[.int .i64 page,.int .u8 c] w fun e w'=>e = .returned (.agg #[.int .i64 page,.string (strOfNums (List.replicate 116 c))])∧Below w.heap.size w w':=by
 have hf:Bx (∀ W,Calls Try.prog 22 #[.int .u8 c,.int .i64 116] W fun e w'=>e = .returned (.string (strOfNums (List.replicate 116 c)))∧Below W.heap.size W w'):=⟨fun W=>full_any c hc 116 (by omega) W⟩
 generalize strOfNums (List.replicate 116 c)=S at *
 go_enter Try.func29,Try.ntmps29
 go_upto_region 1 with fail
 generalize hW:World.alloc w _=W
 have hB:=bl1 hW
 have kb:Bk W w.heap.size #[.int .i64 0,.string ⟨#[]⟩] 69:=bk0 hW rfl
 clear hW
 go_wp2_with fail
 refine (hf.out _).mono ?_
 rintro _ w1 ⟨rfl,hb⟩
 have HB:=Bx.mk (hB.trans (hb.mono hB.size))
 have KB:=Bx.mk (kb.later hb)
 have c0:=KB.out.cell 0 rfl;have c1:=KB.out.cell 1 rfl
 have e0:=KB.out.frozen 0;have e1:=KB.out.frozen 1
 clear hb hf hB kb
 go_wp2_with fail
 have hk:Bk ((w1.setCell ⟨w.heap.size,0,none⟩ (.int .i64 page)).setCell ⟨w.heap.size,1,none⟩ (.string S)) w.heap.size #[.int .i64 page,.string S] 69:=by simpa using (KB.out.set 0 (.int .i64 page)).set 1 (.string S)
 exact bodyPost_ret (v:=.agg #[.int .i64 page,.string S]) (results_cell_row rfl _ _ w.heap.size 69 #[.int .i64 page,.string S] (0,0) _ rfl hk Try.underlying69 rfl (by kernel_rfl)) rfl ⟨rfl,(HB.out.setCell (Nat.le_refl _) _).setCell (Nat.le_refl _) _⟩
end
end Go.Proofs.Ytajhkncolbgkbaa
