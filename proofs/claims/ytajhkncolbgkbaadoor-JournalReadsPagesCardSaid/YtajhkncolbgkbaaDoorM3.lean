/- Pby, Pcr, Pbn, Shf, Psl, Enp: joined by program, for one claim. -/
import Derived.Test.YtajhkncolbgkbaaDoorM1
import Derived.Test.YtajhkncolbgkbaaDoorM2
import Derived.Shelf.Slices.In.SortNone
import Derived.Shelf.Strings.Builder1
import Derived.Shelf.Strings.Builder2
import Derived.Shelf.Strings.Trim
import Derived.Shelf.Small.Utf8
import Derived.Shelf.Small.Strs
import Derived.Shelf.Strings.BuilderF
import Derived.Shelf.Strings.BuilderK
import Derived.Shelf.Strings.Builder2Cap
import Derived.Shelf.Strings.Search1
import Derived.Shelf.Strings.Prefix
import Derived.Shelf.Unicode.Decode
import Derived.Shelf.Strings.Runes
import Derived.Shelf.Strings.AsciiSet
import Derived.Shelf.Bits.Mul64
import Derived.Shelf.Strings.Repeat
import Derived.Shelf.Unicode.DecodeSlow
import Derived.Shelf.Unicode.DecodeAny
import Derived.Shelf.Unicode.DecodeLast
import Derived.Shelf.Strings.BuilderCap
import Derived.Ground.Names2Prog
import Derived.Shelf.Slices.Clone
import Derived.Ground.SlgnProg
import Derived.Shelf.SlicesE.Clone
import Derived.Test.YtajhkncolbgkbaaDoorProg
set_option linter.unusedVariables false
set_option linter.unusedSimpArgs false
section
namespace Go.Proofs.YtajhkncolbgkbaaDoor
def bytesP (n k:Nat):List Int:=(List.range k).map fun i=>((n / 256 ^ i % 256:Nat):Int)
theorem bytes_len (n k:Nat):(bytesP n k).length=k:=by simp [bytesP]
theorem bytes_four (n:Nat):bytesP n 4=fourP n:=by
 simp [bytesP,fourP,List.range_succ]
theorem bytes_two (n:Nat):bytesP n 2=[((n % 256:Nat):Int),((n / 256 % 256:Nat):Int)]:=by
 simp [bytesP,List.range_succ]
theorem bytes_at {n k i:Nat} (h:i<k):(bytesP n k)[i]? = some ((n / 256 ^ i % 256:Nat):Int):=by
 unfold bytesP;rw [List.getElem?_map,List.getElem?_range h];rfl
def numK:List Int→Nat
 | []=>0
 | x::l=>x.toNat+256 * numK l
theorem numK_app (l:List Int) (x:Int):numK (l++[x])=numK l+256 ^ l.length * x.toNat:=by
 induction l with
 | nil=>simp [numK]
 | cons y l ih=>simp only [List.cons_append,numK,ih,List.length_cons,Nat.pow_succ,Nat.mul_add];rw [Nat.mul_comm (256 ^ l.length) 256,Nat.mul_assoc];omega
theorem numK_lt {l:List Int} (h:Byts l):numK l<256 ^ l.length:=by
 induction l with
 | nil=>simp [numK]
 | cons y l ih =>
   have h1:=ih fun x hx=>h x (List.mem_cons_of_mem _ hx)
   have h2:=h y (List.mem_cons_self ..)
   simp only [numK,List.length_cons,Nat.pow_succ];omega
theorem numK_four {l:List Int} (h:4≤l.length):numK (l.take 4)=numP l:=by
 match l,h with
 | a::b::c::d::r,_=>simp [numK,numP];omega
theorem numK_two {l:List Int} {i:Nat} (h:i+2≤l.length):numK ((l.drop i).take 2)=(l.getD i 0).toNat+256 * (l.getD (i+1) 0).toNat:=by
 have h1:l.drop i=l[i]'(by omega)::l[i+1]'(by omega)::l.drop (i+2):=by
  rw [List.drop_eq_getElem_cons (by omega),List.drop_eq_getElem_cons (by omega)]
 rw [h1]
 simp only [List.take_succ_cons,List.take_zero,numK]
 rw [List.getD_eq_getElem?_getD,List.getD_eq_getElem?_getD,List.getElem?_eq_getElem (by omega),List.getElem?_eq_getElem (by omega)]
 simp
theorem or_step {n i:Nat} (hi:i<4) (hn:n<256 ^ i) {x:Int} (hx:0≤x∧x≤255):bits .or .i64 (n:Int) (IntKind.i64.wrap (x * 2 ^ (8 * i)))=((n+256 ^ i * x.toNat:Nat):Int):=by
 obtain ⟨y,rfl⟩:=Int.eq_ofNat_of_zero_le hx.1
 have h8:(2:Nat) ^ (8 * i)=256 ^ i:=by rw [Nat.pow_mul]
 have h8i:(2:Int) ^ (8 * i)=((256 ^ i:Nat):Int):=by rw [←h8];simp
 have hle:256 ^ i≤256 ^ 3:=Nat.pow_le_pow_right (by decide) (by omega)
 have hy:y≤255:=by omega
 have hm:y * 256 ^ i≤255 * 256 ^ 3:=Nat.mul_le_mul hy hle
 rw [h8i,show ((y:Int) * ((256 ^ i:Nat):Int))=((y * 256 ^ i:Nat):Int) by simp,show IntKind.i64.wrap ((y * 256 ^ i:Nat):Int)=((y * 256 ^ i:Nat):Int) from IntWalk.i64_in _ (by omega)]
 rw [i64_or_nat _ _ (by omega) (by omega)]
 have h2:n ||| y * 256 ^ i=n+256 ^ i * y:=by
  rw [Nat.mul_comm y,←h8,Nat.or_comm,←Nat.two_pow_add_eq_or_of_lt (by rw [h8];exact hn) y]
  omega
 rw [h2];simp
end Go.Proofs.YtajhkncolbgkbaaDoor
end
section
namespace Go.Proofs.YtajhkncolbgkbaaDoor
open Go.RowKit Go.Sort Go.Maps
theorem crcR_succ : ∀ (k c:Nat),crcR (k+1) c=crcS (crcR k c)
 | 0,_=>rfl
 | k + 1, c => by
   show crcR (k+1) (crcS c)=crcS (crcR k (crcS c))
   exact crcR_succ k (crcS c)
theorem crcT_take {t:List Int} {k:Nat} {x:Int} (h:t[k]? = some x) (c:Nat):crcT (t.take (k+1)) c=crcB (crcT (t.take k) c) x:=by
 have hk:k<t.length:=(List.getElem?_eq_some_iff.1 h).1
 rw [List.take_succ_eq_append_getElem hk,crcT_app]
 rw [List.getElem?_eq_getElem hk] at h
 rw [Option.some.inj h];rfl
set_option maxRecDepth 100000 in
set_option maxHeartbeats 2000000 in
theorem crc_any (t:List Int) (hb:Byts t) (hl:t.length≤100000) (w:World) :
 Calls Tryd.prog 70 #[.string (strOfNums t)] w fun e w'=>e = .returned (.int .i64 (crcV t:Nat))∧Below w.heap.size w w':=by
 obtain ⟨cT,W,hcv,hsl,hbT⟩:=bytes_of_str (P:=Tryd.prog) 9 75 5 Tryd.underlying9 Tryd.underlying75 Tryd.underlying5 hb w
 have HB:=Bx.mk hbT
 have HS:=Bx.mk hsl
 obtain ⟨n,hn⟩ : ∃ n,n=t.length:=⟨_,rfl⟩
 rw [←hn] at hcv hl
 have Hn:=Bx.mk hn
 have Hb:=Bx.mk hb
 clear hbT hsl hn hb
 go_enter Tryd.func70,Tryd.ntmps70
 go_wp2_with fail
 clear hcv
 go_loopw [3,9] (fun v3 v9 wr => ∃ k:Nat,k≤n∧v9 = .int .i64 k∧v3 = .int .i64 (crcT (t.take k) 4294967295:Nat)∧Bx (Below W.heap.size W wr)) (fun _ i _=>n - (intOf i).toNat)
 case atStart=>exact ⟨0,Nat.zero_le _,rfl,by simp [crcT],⟨Below.refl _ _⟩⟩
 case round =>
  obtain ⟨k,hk,rfl,rfl,HW⟩:=hrel
  have hc:=crcT_lt (l:=t.take k) (fun x hx=>Hb.out x (List.mem_of_mem_take hx)) (c:=4294967295) (by decide)
  by_cases hlt:k<n
  · have t0:decide ((k:Int)<(n:Int))=true:=by simp;omega
    obtain ⟨x,hx⟩ : ∃ x,t[k]? = some x:=⟨_,List.getElem?_eq_getElem (by rw [←Hn.out];exact hlt)⟩
    have hxb:=Hb.out x (List.mem_of_getElem? hx)
    have Hx:=Bx.mk hx
    obtain ⟨b,off,e,hcell⟩:=HS.out k x hx
    simp only [Option.some.injEq,Addr.mk.injEq,and_true] at e
    obtain ⟨rfl,rfl⟩:=e
    rw [Nat.zero_add] at hcell
    have c0:=cell_later HW.out hcell
    have hT:=Bx.mk (crcT_take hx 4294967295)
    have hin:=crc_in hc hxb
    have hx8:IntKind.i64.wrap x=x:=IntWalk.i64_in _ (by omega)
    have hlt32:crcT (t.take k) 4294967295 ^^^ x.toNat<2 ^ 32:=Nat.xor_lt_two_pow hc (by omega)
    have hB:Bx (crcT (t.take (k+1)) 4294967295=crcR 8 (crcT (t.take k) 4294967295 ^^^ x.toNat)):=⟨by rw [hT.out];rfl⟩
    clear hT hx hcell hc
    generalize crcT (t.take k) 4294967295=cc at *
    obtain ⟨c1,hc1⟩ : ∃ c1,c1=cc ^^^ x.toNat:=⟨_,rfl⟩
    rw [←hc1] at hB hin hlt32
    clear hc1
    have b1:(0:Int)≤(k:Int):=by omega
    have b2:(k:Int)<(n:Int):=by omega
    go_wp2_with fail
    clear c0 hin
    go_loopw [3,17] (fun v3 v17 wr => ∃ j:Nat,j≤8∧v17 = .int .i64 j∧v3 = .int .i64 (crcR j c1:Nat)∧Bx (Below W.heap.size W wr)) (fun _ i _=>8 - (intOf i).toNat)
    case atStart=>exact ⟨0,Nat.zero_le _,rfl,rfl,HW⟩
    case round =>
     clear HW
     obtain ⟨j,hj,rfl,rfl,HW⟩:=hrel
     by_cases hjl:j<8
     · have t1:decide ((j:Int)<8)=true:=by simp;omega
       have hcj:=crcR_lt j hlt32
       have hs:=Bx.mk (crcR_succ j c1)
       generalize crcR j c1=cj at *
       have hp:=crc_prog hcj
       obtain ⟨cm,hcm⟩ : ∃ x,bits .and .i64 (cj:Int) 1=x:=⟨_,rfl⟩
       rw [hcm] at hp
       obtain ⟨cp,hcp⟩ : ∃ x,IntKind.i64.wrap (3988292384 * cm)=x:=⟨_,rfl⟩
       rw [hcp] at hp
       go_wp2_with fail
       go_roundw
       case rel=>exact ⟨j+1,by omega,by go_num,by rw [hs.out],HW⟩
       case measure=>simp [intOf];omega
     · obtain rfl:j=8:=by omega
       have t1:decide (((8:Nat):Int)<8)=false:=by decide
       go_wp2_with fail
       go_roundw
       case rel=>exact ⟨k+1,by omega,by go_num,by rw [hB.out],HW⟩
       case measure=>simp [intOf];omega
  · obtain rfl:k=n:=by omega
    have t0:decide ((k:Int)<(k:Int))=false:=by simp
    have e:Bx (t.take k=t):=⟨List.take_of_length_le (by rw [←Hn.out];exact Nat.le_refl _)⟩
    rw [e.out] at hc ⊢
    have hx:bits .xor .i64 ((crcT t 4294967295:Nat):Int) 4294967295=((crcV t:Nat):Int):=i64_xor_nat _ 4294967295 (by omega) (by omega)
    generalize crcT t 4294967295=ct at *
    go_wp2_with fail
    go_ret
    exact ⟨rfl,HB.out.trans (HW.out.mono HB.out.size)⟩
end Go.Proofs.YtajhkncolbgkbaaDoor
end
section
namespace Go.Proofs.YtajhkncolbgkbaaDoor
open Go.RowKit Go.Sort Go.Maps
theorem shr_bytes (n i:Nat) (hi:i<4):Op.shift .shr .i64 (n:Int) .i64 (8 * (i:Int))=pure (.int .i64 ((n / 256 ^ i:Nat):Int)):=by
 have:=shift_shr_i64 (x:=(n:Int)) (yk:=.i64) (y:=8 * (i:Int)) (by omega) (by omega)
 refine this.trans ?_
 rw [show (8 * (i:Int)).toNat=8 * i by omega,show (2:Int) ^ (8 * i)=((256 ^ i:Nat):Int) by rw [show (256:Nat) ^ i=2 ^ (8 * i) by rw [Nat.pow_mul]];simp]
 simp
theorem shl_bytes (x:Int) (i:Nat) (hi:i<4):Op.shift .shl .i64 x .i64 (8 * (i:Int))=pure (.int .i64 (IntKind.i64.wrap (x * 2 ^ (8 * i)))):=by
 have:=shift_shl_i64 (x:=x) (yk:=.i64) (y:=8 * (i:Int)) (by omega) (by omega)
 refine this.trans ?_
 rw [show (8 * (i:Int)).toNat=8 * i by omega]
set_option maxRecDepth 100000 in
set_option maxHeartbeats 1000000 in
theorem bytes_any (n k:Nat) (hk:k≤4) (w:World) :
 Calls Tryd.prog 69 #[.int .i64 (n:Int),.int .i64 (k:Int)] w fun e w'=>e = .returned (.string (strOfNums (bytesP n k)))∧Below w.heap.size w w':=by
 have hmk : ∀ W,(Instr.makeSlice 75 (.int .i64 (k:Int)) (.int .i64 (k:Int))).run Tryd.prog W = .ok (.slice (some ⟨W.heap.size,0,none⟩) k k) (W.alloc (.cells (madeCells #[.int .u8 0] k) 5)) :=
  fun W=>run_make_row' (P:=Tryd.prog) 75 5 (.int .u8 0) 1 Tryd.underlying75 (by kernel_rfl) rfl .i64 .i64 k (by omega) (by omega) W
 go_enter Tryd.func69,Tryd.ntmps69
 go_wp2_with fail
 clear hmk
 go_loopw [11] (fun i wr => ∃ j:Nat,j≤k∧i = .int .i64 j∧Bx (wr.rowIs w.heap.size 5 k (fun a=>.int .u8 (if a<j then ((n / 256 ^ a % 256:Nat):Int) else 0)))∧Bx (Below w.heap.size w wr)) (fun i _=>k - (intOf i).toNat)
 case atStart=>exact ⟨0,Nat.zero_le _,rfl,⟨(World.rowIs_made _ _ _ _).congr (fun i _=>rfl)⟩,⟨(Below.refl _ _).alloc (Nat.le_refl _) _⟩⟩
 case round =>
  obtain ⟨j,hj,rfl,hrow,hB⟩:=hrel
  by_cases hlt:j<k
  · have t0:decide ((j:Int)<(k:Int))=true:=by simp;omega
    have hsh:=shr_bytes n j (by omega)
    have hw8:IntKind.u8.wrap ((n / 256 ^ j:Nat):Int)=((n / 256 ^ j % 256:Nat):Int):=by
     rw [IntKind.wrap_u8];omega
    have hw:IntKind.i64.wrap (8 * (j:Int))=8 * (j:Int):=IntWalk.i64_in _ (by omega)
    obtain ⟨y,hy⟩ : ∃ y,y=8 * (j:Int):=⟨_,rfl⟩
    rw [←hy] at hsh
    replace hw:IntKind.i64.wrap (8 * (j:Int))=y:=by rw [hy];exact hw
    clear hy
    obtain ⟨x,hx⟩ : ∃ x,x=n / 256 ^ j % 256:=⟨_,rfl⟩
    rw [←hx] at hw8
    have Hx:=Bx.mk hx
    clear hx
    obtain ⟨q,hq⟩ : ∃ q,q=n / 256 ^ j:=⟨_,rfl⟩
    rw [←hq] at hw8 hsh
    clear hq
    have b1:(0:Int)≤(j:Int):=by omega
    have b2:(j:Int)<(k:Int):=by omega
    have hcell:=hrow.out.cell hlt
    have hfr:=hrow.out.frozen j
    go_wp2_with fail
    have hrow2:=Bx.mk ((hrow.out.set j (.int .u8 (x:Int))).congr (g:=fun a=>.int .u8 (if a<j+1 then ((n / 256 ^ a % 256:Nat):Int) else 0)) (fun a ha=>by
     by_cases e:a=j
     · rw [e];simp only [if_true];rw [if_pos (by omega),Hx.out]
     · simp only [e,if_false];by_cases h5:a<j
       · rw [if_pos h5,if_pos (by omega)]
       · rw [if_neg h5,if_neg (by omega)]))
    have hB2:=Bx.mk (show Below w.heap.size w (wr.setCell ⟨w.heap.size,j,none⟩ (.int .u8 (x:Int))) from hB.out.setCell (Nat.le_refl _) _)
    clear hcell hfr
    go_roundw
    case rel=>exact ⟨j+1,by omega,by go_num,hrow2,hB2⟩
    case measure=>simp [intOf];omega
  · obtain rfl:j=k:=by omega
    have t0:decide ((j:Int)<(j:Int))=false:=by simp
    have hsl:Sl wr .u8 (some ⟨w.heap.size,0,none⟩) (bytesP n j):=fun i x hx=>⟨w.heap.size,0,rfl,by
     have hi:i<j:=by have:=(List.getElem?_eq_some_iff.1 hx).1;rwa [bytes_len] at this
     have:=hrow.out.cell hi
     simp only [hi,if_true] at this
     rw [Nat.zero_add,this]
     rw [bytes_at hi] at hx
     rw [Option.some.inj hx]⟩
    have hcv:=conv_str (P:=Tryd.prog) 75 5 9 Tryd.underlying75 Tryd.underlying5 Tryd.underlying9 hsl j j (bytes_len n j).symm
    clear hsl hrow
    go_wp2_with fail
    go_ret
    exact ⟨rfl,hB.out⟩
set_option maxRecDepth 100000 in
set_option maxHeartbeats 1000000 in
theorem number_any (t:List Int) (hb:Byts t) (hl:t.length≤4) (w:World) :
 Calls Tryd.prog 64 #[.string (strOfNums t)] w fun e w'=>e = .returned (.int .i64 (numK t:Nat))∧Below w.heap.size w w':=by
 obtain ⟨n,hn⟩ : ∃ n,n=t.length:=⟨_,rfl⟩
 have hsz:(strOfNums t).size=n:=by rw [strOfNums_size,hn]
 have Hn:=Bx.mk hn
 have Hb:=Bx.mk hb
 rw [←hn] at hl
 clear hn hb
 go_enter Tryd.func64,Tryd.ntmps64
 go_wp2_with fail
 go_loopw [2,6] (fun v2 v6 wr => ∃ k:Nat,k≤n∧v6 = .int .i64 k∧v2 = .int .i64 (numK (t.take k):Nat)∧wr=w) (fun _ i _=>n - (intOf i).toNat)
 case atStart=>exact ⟨0,Nat.zero_le _,rfl,by simp [numK],rfl⟩
 case round =>
  obtain ⟨k,hk,rfl,rfl,rfl⟩:=hrel
  by_cases hlt:k<n
  · have t0:decide ((k:Int)<(n:Int))=true:=by simp;omega
    obtain ⟨x,hx⟩ : ∃ x,t[k]? = some x:=⟨_,List.getElem?_eq_getElem (by rw [←Hn.out];exact hlt)⟩
    have hxb:=Hb.out x (List.mem_of_getElem? hx)
    obtain ⟨hk2,hget⟩:=str_get Hb.out hx
    have hnk:=numK_lt (l:=t.take k) (fun x hx=>Hb.out x (List.mem_of_mem_take hx))
    have hlk:(t.take k).length=k:=by rw [List.length_take,←Hn.out];omega
    rw [hlk] at hnk
    have hor:=or_step (n:=numK (t.take k)) (i:=k) (by omega) hnk hxb
    have hN:Bx (numK (t.take (k+1))=numK (t.take k)+256 ^ k * x.toNat):=⟨by
     rw [List.take_succ_eq_append_getElem (by rw [←Hn.out];exact hlt),numK_app,hlk]
     rw [List.getElem?_eq_getElem (by rw [←Hn.out];exact hlt)] at hx
     rw [Option.some.inj hx]⟩
    have hsh:=shl_bytes x k (by omega)
    have hw:IntKind.i64.wrap (8 * (k:Int))=8 * (k:Int):=IntWalk.i64_in _ (by omega)
    have hx8:IntKind.i64.wrap x=x:=IntWalk.i64_in _ (by omega)
    obtain ⟨y,hy⟩ : ∃ y,y=8 * (k:Int):=⟨_,rfl⟩
    rw [←hy] at hsh
    replace hw:IntKind.i64.wrap (8 * (k:Int))=y:=by rw [hy];exact hw
    clear hy
    obtain ⟨z,hz⟩ : ∃ z,z=IntKind.i64.wrap (x * 2 ^ (8 * k)):=⟨_,rfl⟩
    rw [←hz] at hsh hor
    obtain ⟨n2,hn2⟩ : ∃ n2,n2=numK (t.take k)+256 ^ k * x.toNat:=⟨_,rfl⟩
    rw [←hn2] at hN hor
    clear hz hn2 hx hlk hnk
    have b1:(0:Int)≤(k:Int):=by omega
    have b2:(k:Int)<(n:Int):=by omega
    generalize numK (t.take k)=n1 at *
    go_wp2_with fail
    go_roundw
    case rel=>exact ⟨k+1,by omega,by go_num,by rw [hN.out],by first | rfl | trivial⟩
    case measure=>simp [intOf];omega
  · obtain rfl:k=n:=by omega
    have t0:decide ((k:Int)<(k:Int))=false:=by simp
    have e:Bx (t.take k=t):=⟨List.take_of_length_le (by rw [←Hn.out];exact Nat.le_refl _)⟩
    rw [e.out]
    go_wp2_with fail
    go_ret
    exact ⟨rfl,Below.refl _ _⟩
end Go.Proofs.YtajhkncolbgkbaaDoor
end
section
namespace Go.Proofs
open Go.Shelf
def Tryd.lays169_ren:Go.Shelf.Ren:=⟨fun | 169=>57 | n=>n,fun | 70=>106 | 9=>9 | 0=>0 | 72=>108 | 37=>75 | 127=>133 | 3=>3 | 5=>5 | n=>n,fun | n=>n⟩
theorem Tryd.lays169:Go.Proofs.Lays.n169 Tryd.prog Tryd.lays169_ren:={
 mixed:=by kernel_rfl
 f169:=Tryd.func57.trans (congrArg some (by kernel_rfl))
 t0:=Tryd.underlying0
 a0:=Tryd.isAgg0
 z0:=Tryd.sizeOf0
 v0:=Tryd.zeroValue0
 t3:=Tryd.underlying3
 a3:=Tryd.isAgg3
 z3:=Tryd.sizeOf3
 v3:=Tryd.zeroValue3
 t9:=Tryd.underlying9
 a9:=Tryd.isAgg9
 z9:=Tryd.sizeOf9
 v9:=Tryd.zeroValue9
 t37:=Tryd.underlying75
 a37:=Tryd.isAgg75
 z37:=Tryd.sizeOf75
 v37:=Tryd.zeroValue75
 t70:=Tryd.underlying106
 a70:=Tryd.isAgg106
 z70:=Tryd.sizeOf106
 v70:=Tryd.zeroValue106
 t72:=Tryd.underlying108
 a72:=Tryd.isAgg108
 z72:=Tryd.sizeOf108
 v72:=Tryd.zeroValue108
 t127:=Tryd.underlying133
 a127:=Tryd.isAgg133
 z127:=Tryd.sizeOf133
 v127:=Tryd.zeroValue133 }
theorem Tryd.Builder_Extra_169:Builder.Extra Tryd.prog Tryd.lays169_ren:={
 sizeBuilder:=by kernel_rfl
 liesBuilder:=by kernel_rfl
 t5:=Tryd.underlying5
 a5:=Tryd.isAgg5
 z5:=Tryd.sizeOf5
 v5:=Tryd.zeroValue5
 infoByte:=by kernel_rfl
 cellsByte:=by kernel_rfl
 sizeByte:=by kernel_rfl
 neB5:=by decide }
open Go.RowKit in
theorem Tryd.Builder_String_any (B b:Nat) (l:List UInt8) (w:World) (h:Lib.IsBuilder 108 5 B b (Lib.byteCells l) w) (hBw:B≤w.heap.size) :
 Calls Tryd.prog 57 #[.pointer (some ⟨b,0,none⟩)] w fun e w'=>e = .returned (.string ⟨l.toArray⟩)∧Below B w w':=Any.Builder_String_any Tryd.lays169 Tryd.Builder_Extra_169 B b l w h hBw
def Tryd.lays160_ren:Go.Shelf.Ren:=⟨fun | 160=>51 | 232=>74 | 231=>73 | 227=>75 | 234=>77 | 233=>76 | 236=>79 | 235=>78 | 228=>87 | 271=>90 | 151=>89 | 197=>88 | 120=>98 | 152=>97 | 260=>96 | 137=>100 | 119=>101 | 224=>102 | 225=>103 | 217=>104 | 266=>105 | n=>n,fun | 9=>9 | 4=>4 | 3=>3 | 5=>5 | 117=>129 | 116=>128 | 0=>0 | 124=>132 | 21=>21 | 105=>142 | 46=>125 | 119=>155 | 139=>158 | 138=>157 | n=>n,fun | 3=>0 | 4=>1 | n=>n⟩
theorem Tryd.lays160:Go.Proofs.Lays.n160 Tryd.prog Tryd.lays160_ren:={
 mixed:=by kernel_rfl
 f119:=Tryd.func101.trans (congrArg some (by kernel_rfl))
 f120:=Tryd.func98.trans (congrArg some (by kernel_rfl))
 f137:=Tryd.func100.trans (congrArg some (by kernel_rfl))
 f151:=Tryd.func89.trans (congrArg some (by kernel_rfl))
 f152:=Tryd.func97.trans (congrArg some (by kernel_rfl))
 f160:=Tryd.func51.trans (congrArg some (by kernel_rfl))
 f197:=Tryd.func88.trans (congrArg some (by kernel_rfl))
 f217:=Tryd.func104.trans (congrArg some (by kernel_rfl))
 f224:=Tryd.func102.trans (congrArg some (by kernel_rfl))
 f225:=Tryd.func103.trans (congrArg some (by kernel_rfl))
 f227:=Tryd.func75.trans (congrArg some (by kernel_rfl))
 f228:=Tryd.func87.trans (congrArg some (by kernel_rfl))
 f231:=Tryd.func73.trans (congrArg some (by kernel_rfl))
 f232:=Tryd.func74.trans (congrArg some (by kernel_rfl))
 f233:=Tryd.func76.trans (congrArg some (by kernel_rfl))
 f234:=Tryd.func77.trans (congrArg some (by kernel_rfl))
 f235:=Tryd.func78.trans (congrArg some (by kernel_rfl))
 f236:=Tryd.func79.trans (congrArg some (by kernel_rfl))
 f260:=Tryd.func96.trans (congrArg some (by kernel_rfl))
 f266:=Tryd.func105.trans (congrArg some (by kernel_rfl))
 f271:=Tryd.func90.trans (congrArg some (by kernel_rfl))
 t0:=Tryd.underlying0
 a0:=Tryd.isAgg0
 z0:=Tryd.sizeOf0
 v0:=Tryd.zeroValue0
 t3:=Tryd.underlying3
 a3:=Tryd.isAgg3
 z3:=Tryd.sizeOf3
 v3:=Tryd.zeroValue3
 t4:=Tryd.underlying4
 a4:=Tryd.isAgg4
 z4:=Tryd.sizeOf4
 v4:=Tryd.zeroValue4
 t5:=Tryd.underlying5
 a5:=Tryd.isAgg5
 z5:=Tryd.sizeOf5
 v5:=Tryd.zeroValue5
 t9:=Tryd.underlying9
 a9:=Tryd.isAgg9
 z9:=Tryd.sizeOf9
 v9:=Tryd.zeroValue9
 t21:=Tryd.underlying21
 a21:=Tryd.isAgg21
 z21:=Tryd.sizeOf21
 v21:=Tryd.zeroValue21
 t46:=Tryd.underlying125
 a46:=Tryd.isAgg125
 z46:=Tryd.sizeOf125
 v46:=Tryd.zeroValue125
 t105:=Tryd.underlying142
 a105:=Tryd.isAgg142
 z105:=Tryd.sizeOf142
 v105:=Tryd.zeroValue142
 t116:=Tryd.underlying128
 a116:=Tryd.isAgg128
 z116:=Tryd.sizeOf128
 t117:=Tryd.underlying129
 a117:=Tryd.isAgg129
 z117:=Tryd.sizeOf129
 v117:=Tryd.zeroValue129
 t119:=Tryd.underlying155
 a119:=Tryd.isAgg155
 z119:=Tryd.sizeOf155
 t124:=Tryd.underlying132
 a124:=Tryd.isAgg132
 z124:=Tryd.sizeOf132
 v124:=Tryd.zeroValue132
 t138:=Tryd.underlying157
 a138:=Tryd.isAgg157
 z138:=Tryd.sizeOf157
 v138:=Tryd.zeroValue157
 t139:=Tryd.underlying158
 a139:=Tryd.isAgg158
 z139:=Tryd.sizeOf158
 v139:=Tryd.zeroValue158
 g3:=by kernel_rfl
 g4:=by kernel_rfl }
open Go.RowKit in
theorem Tryd.strings_Trim_one (s:ByteArray) (c:UInt8) (hc:c.toNat<128) (w:World) (hs:s.size≤9223372036854775807) :
 Calls Tryd.prog 51 #[.string s,.string ⟨#[c]⟩] w fun e w'=>e = .returned (.string ⟨(Lib.trimB s.data.toList c).toArray⟩)∧(w'=w∨w'=w.drew):=Any.strings_Trim_one Tryd.lays160 s c hc w hs
def Tryd.lays105_ren:Go.Shelf.Ren:=⟨fun | 105=>62 | 212=>83 | 99=>84 | 165=>85 | 166=>55 | 170=>86 | 169=>57 | 263=>92 | 264=>93 | 206=>94 | 240=>80 | 241=>95 | 276=>91 | 277=>99 | n=>n,fun | 9=>9 | 3=>3 | 4=>4 | 20=>20 | 0=>0 | 46=>125 | 109=>136 | 5=>5 | 72=>108 | 76=>111 | 51=>147 | 146=>148 | 53=>150 | 148=>151 | 70=>106 | 37=>75 | 75=>110 | 127=>133 | 164=>145 | 80=>114 | n=>n,fun | n=>n⟩
theorem Tryd.lays105:Go.Proofs.Lays.n105 Tryd.prog Tryd.lays105_ren:={
 mixed:=by kernel_rfl
 f99:=Tryd.func84.trans (congrArg some (by kernel_rfl))
 f105:=Tryd.func62.trans (congrArg some (by kernel_rfl))
 f165:=Tryd.func85.trans (congrArg some (by kernel_rfl))
 f166:=Tryd.func55.trans (congrArg some (by kernel_rfl))
 f169:=Tryd.func57.trans (congrArg some (by kernel_rfl))
 f170:=Tryd.func86.trans (congrArg some (by kernel_rfl))
 f206:=Tryd.func94.trans (congrArg some (by kernel_rfl))
 f212:=Tryd.func83.trans (congrArg some (by kernel_rfl))
 f240:=Tryd.func80.trans (congrArg some (by kernel_rfl))
 f241:=Tryd.func95.trans (congrArg some (by kernel_rfl))
 f263:=Tryd.func92.trans (congrArg some (by kernel_rfl))
 f264:=Tryd.func93.trans (congrArg some (by kernel_rfl))
 f276:=Tryd.func91.trans (congrArg some (by kernel_rfl))
 f277:=Tryd.func99.trans (congrArg some (by kernel_rfl))
 t0:=Tryd.underlying0
 a0:=Tryd.isAgg0
 z0:=Tryd.sizeOf0
 v0:=Tryd.zeroValue0
 t3:=Tryd.underlying3
 a3:=Tryd.isAgg3
 z3:=Tryd.sizeOf3
 v3:=Tryd.zeroValue3
 t4:=Tryd.underlying4
 a4:=Tryd.isAgg4
 z4:=Tryd.sizeOf4
 v4:=Tryd.zeroValue4
 t5:=Tryd.underlying5
 a5:=Tryd.isAgg5
 z5:=Tryd.sizeOf5
 v5:=Tryd.zeroValue5
 t9:=Tryd.underlying9
 a9:=Tryd.isAgg9
 z9:=Tryd.sizeOf9
 v9:=Tryd.zeroValue9
 t20:=Tryd.underlying20
 a20:=Tryd.isAgg20
 z20:=Tryd.sizeOf20
 v20:=Tryd.zeroValue20
 t37:=Tryd.underlying75
 a37:=Tryd.isAgg75
 z37:=Tryd.sizeOf75
 v37:=Tryd.zeroValue75
 t46:=Tryd.underlying125
 a46:=Tryd.isAgg125
 z46:=Tryd.sizeOf125
 v46:=Tryd.zeroValue125
 t51:=Tryd.underlying147
 a51:=Tryd.isAgg147
 z51:=Tryd.sizeOf147
 v51:=Tryd.zeroValue147
 t53:=Tryd.underlying150
 a53:=Tryd.isAgg150
 z53:=Tryd.sizeOf150
 v53:=Tryd.zeroValue150
 t70:=Tryd.underlying106
 a70:=Tryd.isAgg106
 z70:=Tryd.sizeOf106
 v70:=Tryd.zeroValue106
 t72:=Tryd.underlying108
 a72:=Tryd.isAgg108
 z72:=Tryd.sizeOf108
 v72:=Tryd.zeroValue108
 t75:=Tryd.underlying110
 a75:=Tryd.isAgg110
 z75:=Tryd.sizeOf110
 v75:=Tryd.zeroValue110
 t76:=Tryd.underlying111
 a76:=Tryd.isAgg111
 z76:=Tryd.sizeOf111
 v76:=Tryd.zeroValue111
 t109:=Tryd.underlying136
 a109:=Tryd.isAgg136
 z109:=Tryd.sizeOf136
 v109:=Tryd.zeroValue136
 t127:=Tryd.underlying133
 a127:=Tryd.isAgg133
 z127:=Tryd.sizeOf133
 v127:=Tryd.zeroValue133
 t146:=Tryd.underlying148
 a146:=Tryd.isAgg148
 z146:=Tryd.sizeOf148
 v146:=Tryd.zeroValue148
 t148:=Tryd.underlying151
 a148:=Tryd.isAgg151
 z148:=Tryd.sizeOf151
 v148:=Tryd.zeroValue151
 t164:=Tryd.underlying145
 a164:=Tryd.isAgg145
 z164:=Tryd.sizeOf145
 v164:=Tryd.zeroValue145 }
theorem Tryd.Builder_Extra_105:Builder.Extra Tryd.prog Tryd.lays105_ren:={
 sizeBuilder:=by kernel_rfl
 liesBuilder:=by kernel_rfl
 t5:=Tryd.underlying5
 a5:=Tryd.isAgg5
 z5:=Tryd.sizeOf5
 v5:=Tryd.zeroValue5
 infoByte:=by kernel_rfl
 cellsByte:=by kernel_rfl
 sizeByte:=by kernel_rfl
 neB5:=by decide }
open Go.RowKit Go.Lib in
theorem Tryd.strings_Repeat_main (s:ByteArray) (c:Nat) (w:World) (hc2:2≤c) (hc:c≤9223372036854775807) (hlen:s.size * c≤140737488355328) (h0:0<s.size) :
 Calls Tryd.prog 62 #[.string s,.int .i64 c] w fun e w'=>e = .returned (.string ⟨(Lib.repeatL s.data.toList c).toArray⟩)∧Below w.heap.size w w':=Any.strings_Repeat_main Tryd.lays105 Tryd.Builder_Extra_105 s c w hc2 hc hlen h0
open Go.RowKit Go.Lib in
theorem Tryd.strings_Repeat_zero (s:ByteArray) (w:World) :
 Calls Tryd.prog 62 #[.string s,.int .i64 0] w fun e w'=>e = .returned (.string ⟨#[]⟩)∧w'=w:=Any.strings_Repeat_zero Tryd.lays105 s w
open Go.RowKit Go.Lib in
theorem Tryd.strings_Repeat_one (s:ByteArray) (w:World) :
 Calls Tryd.prog 62 #[.string s,.int .i64 1] w fun e w'=>e = .returned (.string s)∧w'=w:=Any.strings_Repeat_one Tryd.lays105 s w
def Tryd.laysNm216_ren:Go.Shelf.Ren:=⟨fun | 16=>35 | n=>n,fun | 24=>30 | 9=>9 | 4=>4 | n=>n,fun | n=>n⟩
theorem Tryd.laysNm216:Go.Proofs.Lays2.n16 Tryd.prog Tryd.laysNm216_ren:={
 mixed:=by kernel_rfl
 f16:=Tryd.func35.trans (congrArg some (by kernel_rfl))
 t4:=Tryd.underlying4
 a4:=Tryd.isAgg4
 z4:=Tryd.sizeOf4
 v4:=Tryd.zeroValue4
 t9:=Tryd.underlying9
 a9:=Tryd.isAgg9
 z9:=Tryd.sizeOf9
 v9:=Tryd.zeroValue9
 t24:=Tryd.underlying30
 a24:=Tryd.isAgg30
 z24:=Tryd.sizeOf30
 v24:=Tryd.zeroValue30
 i9:=by kernel_rfl }
open Go.RowKit Go.Lib in
theorem Tryd.slices_Clone_string (b off n c:Nat) (zs:List ByteArray) (w:World) (hz:n≤zs.length) (hbig:n * 16≤140737488355328) (hc : ∀ j,j<zs.length→w.cell? ⟨b,off+j,none⟩=some (.string (zs.getD j ByteArray.empty))) :
 Calls Tryd.prog 35 #[.slice (some ⟨b,off,none⟩) n c] w fun e w' => ∃ v',e = .returned v'∧w'.ownsRow w.heap.size 9 1 v' n ((zs.take n).map (Value.string))∧v' ≠ .slice none 0 0∧Below w.heap.size w w':=Any.slices_Clone_string Tryd.laysNm216 b off n c zs w hz hbig hc
open Go.RowKit Go.Lib in
theorem Tryd.slices_Clone_string_nil (n c:Nat) (w:World) :
 Calls Tryd.prog 35 #[.slice none n c] w fun e w'=>e = .returned (.slice none 0 0)∧w'=w:=Any.slices_Clone_string_nil Tryd.laysNm216 n c w
open Go.RowKit Go.Lib in
theorem Tryd.slices_Clone_string_zero (a:Addr) (c:Nat) (w:World) :
 Calls Tryd.prog 35 #[.slice (some a) 0 c] w fun e w' => ∃ v',e = .returned v'∧w'.ownsRow w.heap.size 9 1 v' 0 []∧v' ≠ .slice none 0 0∧Below w.heap.size w w':=Any.slices_Clone_string_zero Tryd.laysNm216 a c w
end Go.Proofs
end
section
namespace Go.Proofs.YtajhkncolbgkbaaDoor
open Go.RowKit Go.Sort Go.Maps
theorem rep_zeros (n:Nat):(⟨(Lib.repeatL (ByteArray.mk #[0]).data.toList n).toArray⟩:ByteArray)=strOfNums (zerosP n):=by
 have h : ∀ n,Lib.repeatL [(0:UInt8)] n=(zerosP n).map fun x=>UInt8.ofNat x.toNat:=by
  intro n
  induction n with
  | zero=>rfl
  | succ n ih =>
    show [(0:UInt8)]++Lib.repeatL [(0:UInt8)] n=_
    rw [ih];unfold zerosP;rw [List.replicate_succ,List.map_cons];rfl
 have h2:(ByteArray.mk #[(0:UInt8)]).data.toList=[0]:=rfl
 rw [h2,h]
 have:=strOfNums_data (zerosP n)
 rw [←this]
set_option maxRecDepth 100000 in
set_option maxHeartbeats 1000000 in
theorem blank_any (n:Nat) (hn:n≤1000) (w:World):Calls Tryd.prog 65 #[.int .i64 (n:Int)] w fun e w'=>e = .returned (.string (strOfNums (zerosP n)))∧Below w.heap.size w w':=by
 have hr:Bx (∀ W,Calls Tryd.prog 62 #[.string ⟨#[0]⟩,.int .i64 (n:Int)] W fun e w'=>e = .returned (.string (strOfNums (zerosP n)))∧Below W.heap.size W w'):=⟨fun W=>by
  match n,hn with
  | 0,_=>exact (Tryd.strings_Repeat_zero ⟨#[0]⟩ W).mono fun e w' h=>⟨by rw [h.1];rfl,h.2 ▸ Below.refl _ _⟩
  | 1,_=>exact (Tryd.strings_Repeat_one ⟨#[0]⟩ W).mono fun e w' h=>⟨by rw [h.1];rfl,h.2 ▸ Below.refl _ _⟩
  | n + 2, hn =>
    have hs:(ByteArray.mk #[(0:UInt8)]).size=1:=rfl
    have:=Tryd.strings_Repeat_main ⟨#[0]⟩ (n+2) W (by omega) (by omega) (by rw [hs];omega) (by rw [hs];omega)
    rw [rep_zeros] at this
    exact this⟩
 go_enter Tryd.func65,Tryd.ntmps65
 go_wp2_with fail
 refine (hr.out _).mono ?_
 rintro _ w1 ⟨rfl,hb⟩
 have HB:=Bx.mk hb
 clear hb hr
 go_wp2_with fail
 go_ret
 exact ⟨rfl,HB.out⟩
def sealV (n:Int) (d:List Int):List Int:=if 1≤n∧n≤1073741824∧d.length=116 then sealP n.toNat d else []
set_option maxRecDepth 100000 in
set_option maxHeartbeats 1000000 in
theorem seal_any (n:Int) (d:List Int) (hb:Byts d) (hl:d.length≤10000) (w:World) :
 Calls Tryd.prog 46 #[.int .i64 n,.string (strOfNums d)] w fun e w'=>e = .returned (.string (strOfNums (sealV n d)))∧Below w.heap.size w w':=by
 have hsz:(strOfNums d).size=d.length:=strOfNums_size d
 by_cases hok:1≤n∧n≤1073741824∧d.length=116
 · obtain ⟨h1,h2,h3⟩:=hok
   have hv:sealV n d=sealP n.toNat d:=by unfold sealV;rw [if_pos ⟨h1,h2,h3⟩]
   obtain ⟨m,rfl⟩ : ∃ m:Nat,n=(m:Int):=⟨n.toNat,by omega⟩
   rw [Int.toNat_natCast] at hv
   have t0:decide ((m:Int)<1)=false:=by simp;omega
   have t1:decide ((m:Int) > 1073741824)=false:=by simp;omega
   have t1b:decide (1073741824<m)=false:=by simp;omega
   rw [h3] at hsz
   have hby:Bx (∀ (x:Nat) W,Calls Tryd.prog 69 #[.int .i64 (x:Int),.int .i64 4] W fun e w'=>e = .returned (.string (strOfNums (fourP x)))∧Below W.heap.size W w'):=⟨fun x W=>by
    have:=bytes_any x 4 (by decide) W
    rwa [bytes_four] at this⟩
   have hb2:Byts (fourP m++d):=fun x hx=>by
    rcases List.mem_append.1 hx with h | h
    · exact byts_four m x h
    · exact hb x h
   have hcr:=Bx.mk fun W=>crc_any (fourP m++d) hb2 (by simp [four_len];omega) W
   have a1:strOfNums (fourP m)++strOfNums d=strOfNums (fourP m++d):=str_append _ _
   have a2:strOfNums (fourP m++d)++strOfNums (fourP (crcV (fourP m++d)))=strOfNums (fourP m++d++fourP (crcV (fourP m++d))):=str_append _ _
   have a3:strOfNums (fourP m++d++fourP (crcV (fourP m++d)))++strOfNums (fourP m)=strOfNums (sealV (m:Int) d):=by rw [hv];exact str_append _ _
   have z1:(strOfNums (fourP m)).size=4:=by rw [strOfNums_size];rfl
   have z2:(strOfNums (fourP m++d)).size=120:=by rw [strOfNums_size,List.length_append,h3,four_len]
   have z3:(strOfNums (fourP (crcV (fourP m++d)))).size=4:=by rw [strOfNums_size];rfl
   have z4:(strOfNums (fourP m++d++fourP (crcV (fourP m++d)))).size=124:=by rw [strOfNums_size,List.length_append,List.length_append,h3,four_len,four_len]
   have hb4:=Bx.mk (hby.out m)
   have hb5:=Bx.mk (hby.out (crcV (fourP m++d)))
   clear hb2 hv hby hb
   generalize strOfNums (sealV (m:Int) d)=R at *
   generalize strOfNums (fourP m++d++fourP (crcV (fourP m++d)))=S3 at *
   generalize strOfNums (fourP (crcV (fourP m++d)))=S2 at *
   generalize crcV (fourP m++d)=cv at *
   generalize strOfNums (fourP m++d)=S1 at *
   generalize strOfNums (fourP m)=S4 at *
   generalize strOfNums d=Sd at *
   go_enter Tryd.func46,Tryd.ntmps46
   go_wp2_with fail
   refine (hb4.out _).mono ?_
   rintro _ w1 ⟨rfl,hw1⟩
   have HB1:=Bx.mk hw1
   clear hw1
   go_wp2_with fail
   refine (hcr.out _).mono ?_
   rintro _ w2 ⟨rfl,hw2⟩
   have HB2:=Bx.mk (HB1.out.trans (hw2.mono HB1.out.size))
   clear hw2
   go_wp2_with fail
   refine (hb5.out _).mono ?_
   rintro _ w3 ⟨rfl,hw3⟩
   have HB3:=Bx.mk (HB2.out.trans (hw3.mono HB2.out.size))
   clear hw3
   go_wp2_with fail
   refine (hb4.out _).mono ?_
   rintro _ w4 ⟨rfl,hw4⟩
   have HB4:=Bx.mk (HB3.out.trans (hw4.mono HB3.out.size))
   clear hw4
   go_wp2_with fail
   go_ret
   exact ⟨rfl,HB4.out⟩
 · have hv:sealV n d=[]:=by unfold sealV;rw [if_neg hok]
   rw [hv]
   have he:strOfNums []=⟨#[]⟩:=rfl
   rw [he]
   obtain ⟨l,hln⟩ : ∃ l,l=d.length:=⟨_,rfl⟩
   rw [←hln] at hok hsz
   generalize strOfNums d=Sd at *
   clear hv he hb hln hl
   by_cases h1:n<1
   · have t0:decide (n<1)=true:=by simpa using h1
     go_enter Tryd.func46,Tryd.ntmps46
     go_wp2_with fail
     go_ret
     exact ⟨rfl,Below.refl _ _⟩
   · have t0:decide (n<1)=false:=by simpa using h1
     by_cases h2:n > 1073741824
     · have t1:decide (n > 1073741824)=true:=by simpa using h2
       go_enter Tryd.func46,Tryd.ntmps46
       go_wp2_with fail
       go_ret
       exact ⟨rfl,Below.refl _ _⟩
     · have t1:decide (n > 1073741824)=false:=by simpa using h2
       have h3 : ¬l=116:=fun h=>hok ⟨by omega,by omega,h⟩
       have t2:((l:Int) != 116)=true:=by simp;omega
       have t2b:((l:Int) == 116)=false:=by simp;omega
       have t2c:decide ((l:Int)=116)=false:=by simp;omega
       have t2d : ¬(l:Int)=116:=by omega
       clear hok
       go_enter Tryd.func46,Tryd.ntmps46
       go_wp2_with fail
       go_ret
       exact ⟨rfl,Below.refl _ _⟩
end Go.Proofs.YtajhkncolbgkbaaDoor
end
section
namespace Go.Proofs.YtajhkncolbgkbaaDoor
namespace Oct
namespace Tr
def pos (ch:Fin 8→Tr) (k:Nat):Nat:=2+((List.ofFn fun i=>enc (ch i)).take k).flatten.length
def small:Nat→Tr→Prop
 | _,.uni _=>True
 | _,.brick _=>True
 | 0,.node _ _=>False
 | n+1,.node _ ch => ∀ i,small n (ch i)
end Tr
end Oct
end Go.Proofs.YtajhkncolbgkbaaDoor
end
