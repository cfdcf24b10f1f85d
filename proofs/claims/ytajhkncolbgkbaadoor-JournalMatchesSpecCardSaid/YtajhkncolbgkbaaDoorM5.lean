/- Brk, Pla, Paste, Lines, Geo, Crop, Bld, Bld2, Prt, Pcb, Pby, Pcr, Pbn, Psl, Enp, Inr, Pus: joined by program, for one claim. -/
import Derived.Test.YtajhkncolbgkbaaDoorM4
import Derived.Deep.LoopGhost
import Derived.Test.YtajhkncolbgkbaaDoorM1
import Derived.Laws.IdiomStrings
import Derived.Test.YtajhkncolbgkbaaDoorM2
import Derived.Deep.RegionLaw
import Derived.Laws.CopyOwn
import Derived.Laws.BitsAllLaws
import Derived.Lib.SliceRun
import Derived.Deep.Cut
import Derived.Laws.EntriesVeiled
import Derived.Test.YtajhkncolbgkbaaDoorM3
set_option linter.unusedVariables false
set_option linter.unusedSimpArgs false
section
namespace Go.Proofs.YtajhkncolbgkbaaDoor
open Go.RowKit Go.Sort Go.Maps
open Oct
structure Top (xs:List Int) (m:Int):Prop where
 le : ∀ x∈xs,x≤m
 mem:m∈xs
structure Bot (xs:List Int) (m:Int):Prop where
 le : ∀ x∈xs,m≤x
 mem:m∈xs
theorem take_snoc_at {xs:List Int} {k:Nat} {x:Int} (h:xs[k]? = some x):xs.take (k+1)=xs.take k++[x]:=by
 rw [List.take_add_one,h];rfl
theorem Top.step {xs:List Int} {k:Nat} {m x:Int} (h:Top (xs.take k) m) (hx:xs[k]? = some x):Top (xs.take (k+1)) (max m x):=by
 rw [take_snoc_at hx]
 refine ⟨fun y hy=>?_,?_⟩
 · rcases List.mem_append.1 hy with hy | hy
   · have:=h.le y hy;omega
   · rw [List.mem_singleton.1 hy];omega
 · by_cases hm:x≤m
   · rw [show max m x=m by omega];exact List.mem_append_left _ h.mem
   · rw [show max m x=x by omega];simp
theorem Bot.step {xs:List Int} {k:Nat} {m x:Int} (h:Bot (xs.take k) m) (hx:xs[k]? = some x):Bot (xs.take (k+1)) (min m x):=by
 rw [take_snoc_at hx]
 refine ⟨fun y hy=>?_,?_⟩
 · rcases List.mem_append.1 hy with hy | hy
   · have:=h.le y hy;omega
   · rw [List.mem_singleton.1 hy];omega
 · by_cases hm:m≤x
   · rw [show min m x=m by omega];exact List.mem_append_left _ h.mem
   · rw [show min m x=x by omega];simp
end Go.Proofs.YtajhkncolbgkbaaDoor
end
section
namespace Go.Proofs.YtajhkncolbgkbaaDoor
open Oct
theorem WF.bytes {t:Tr} (h:Tr.WF t):Bytes t:=by
 cases t with
 | uni c=>exact Bytes.uni h
 | brick l=>exact Bytes.brick h
 | node d ch=>exact Bytes.node h.1 ch
def Between (ts ts':List Tr):Prop := ∀ vs,ts <+: vs→vs <+: ts'→Good vs
theorem Between.same {ts:List Tr} (hG:Good ts):Between ts ts:=fun vs h1 h2=>by
 have:=h1.eq_of_length_le h2.length_le
 exact this ▸ hG
theorem Between.trans {a b c:List Tr} (h:Between a b) (h':Between b c) (hbc:b <+: c):Between a c:=fun vs h1 h2=>by
 rcases List.prefix_or_prefix_of_prefix h2 hbc with h3 | h3
 · exact h vs h1 h3
 · exact h' vs h3 h2
theorem Between.left {a b c:List Tr} (h:Between a c) (hbc:b <+: c):Between a b:=fun vs h1 h2=>h vs h1 (h2.trans hbc)
def many:Nat→Nat
 | 0=>1
 | n+1=>1+8 * many n
end Go.Proofs.YtajhkncolbgkbaaDoor
end
section
namespace Go.Proofs.YtajhkncolbgkbaaDoor
open Go.RowKit Go.Sort
def over (ys:List Int) (k:Nat) (cs:List Int):List Int:=splice ys k cs
end Go.Proofs.YtajhkncolbgkbaaDoor
end
section
namespace Go.Proofs.YtajhkncolbgkbaaDoor
open Go.RowKit Go.Sort
theorem Bk.grown {w w':World} {b g:Nat} {vs:Array Value} {t:TypeId} (h:Bk w b vs t) (hg:w.grownBy w' (some g)) (hne:b ≠ g):Bk w' b vs t:=by
 have hlt:b<w.heap.size:=(Array.getElem?_eq_some_iff.1 h).1
 exact (hg.block b hlt (fun e=>hne (by injection e))).trans h
end Go.Proofs.YtajhkncolbgkbaaDoor
end
section
namespace Go.Proofs.YtajhkncolbgkbaaDoor
open Go.Sort
def cellG (b:Box) (xs:List Int) (p:Pt):Int:=if inB p b=true then xs.getD (indexB b p).toNat 0 else 0
def cellsOf (b:Box) (f:Pt→Int):List Int:=(List.range (volB b).toNat).map fun i:Nat=>f (atB b (i:Int))
end Go.Proofs.YtajhkncolbgkbaaDoor
end
section
namespace Go.Proofs.YtajhkncolbgkbaaDoor
open Go.RowKit Go.Sort
theorem Sl.grown {w w':World} {k:IntKind} {b off g:Nat} {xs:List Int} (h:Sl w k (some ⟨b,off,none⟩) xs) (hg:w.grownBy w' (some g)) (hne:b ≠ g):Sl w' k (some ⟨b,off,none⟩) xs:=by
 intro i x hx
 obtain ⟨b',off',e,hc⟩:=h i x hx
 refine ⟨b',off',e,?_⟩
 injection e with e;injection e with e1 e2;subst e1 e2
 have hlt:b<w.heap.size:=World.block_lt_of_cell? _ _ hc
 exact (World.cell?_of_block (hg.block b hlt (fun e=>hne (by injection e)))).trans hc
theorem Sl.any {w:World} {k:IntKind} {a a':Option Addr} (_h:Sl w k a []):Sl w k a' []:=Sl.nil _ _ _
end Go.Proofs.YtajhkncolbgkbaaDoor
end
section
namespace Go.Proofs.YtajhkncolbgkbaaDoor
open Go.RowKit Go.Sort Go.Maps
open Oct
theorem Sl.far {w w':World} {Far:Nat→Prop} {k:IntKind} {ha:Option Addr} {xs:List Int} (h:Sl w k ha xs) (hk:Keeps Far w w') (hf:xs ≠ [] → ∀ b,ha.map (·.block)=some b→Far b):Sl w' k ha xs:=by
 intro i x hx
 obtain ⟨b,off,rfl,hc⟩:=h i x hx
 refine ⟨b,off,rfl,?_⟩
 have hlt:=World.block_lt_of_cell? w _ hc
 rw [World.cell?_of_block (hk.block b (hf (by rintro rfl;simp at hx) b rfl) hlt)];exact hc
section
variable {w w':World} {Far Far':Nat→Prop} {pg ps pb sb:Nat} {a b c d e f:Int} {ha:Option Addr} {hcp:Nat} {xs:List Int}
end
end Go.Proofs.YtajhkncolbgkbaaDoor
end
section
namespace Go.Proofs.YtajhkncolbgkbaaDoor
open Go.RowKit Go.Sort Go.Maps
open Oct
structure GoodH (b:Box) (xs:List Int) (hcp:Nat):Prop where
 small:Small b 1048575
 len:xs.length=(volB b).toNat
 le:xs.length≤5000
 cells : ∀ x∈xs,0≤x∧x≤255
 cap:xs.length≤hcp
theorem GoodH.range {b:Box} {xs:List Int} {hcp:Nat} (h:GoodH b xs hcp) (p:Pt):0≤cellG b xs p∧cellG b xs p≤255:=by
 unfold cellG
 split
 · rename_i hp
   have hi:=indexB_bd hp
   have hl:=h.len
   have hlt:(indexB b p).toNat<xs.length:=by omega
   rw [Tr.getD_el hlt]
   exact h.cells _ (List.getElem_mem _)
 · omega
structure GoodG (b:Box) (xs:List Int) (hcp:Nat):Prop where
 small:Small b 1048575
 len:xs.length=(volB b).toNat
 le:xs.length≤300
 cells : ∀ x∈xs,0≤x∧x≤255
 cap:xs.length≤hcp
theorem GoodG.toH {b:Box} {xs:List Int} {hcp:Nat} (h:GoodG b xs hcp):GoodH b xs hcp:=⟨h.small,h.len,Nat.le_trans h.le (by decide),h.cells,h.cap⟩
theorem GoodG.range {b:Box} {xs:List Int} {hcp:Nat} (h:GoodG b xs hcp) (p:Pt):0≤cellG b xs p∧cellG b xs p≤255:=h.toH.range p
instance (b:Box) (xs:List Int) (hcp:Nat):Coe (GoodG b xs hcp) (GoodH b xs hcp):=⟨GoodG.toH⟩
end Go.Proofs.YtajhkncolbgkbaaDoor
end
section
namespace Go.Proofs.YtajhkncolbgkbaaDoor
open Go.RowKit Go.Sort Go.Maps
open Oct
theorem i64_or_nat (a b:Nat) (ha:a<4611686018427387904) (hb:b<4611686018427387904):bits .or .i64 (a:Int) (b:Int)=((a ||| b:Nat):Int):=by
 have hx:a ||| b<2 ^ 62:=Nat.or_lt_two_pow (by omega) (by omega)
 show IntKind.i64.wrap ((BitVec.ofInt 64 (a:Int) ||| BitVec.ofInt 64 (b:Int)).toNat:Int)=_
 rw [BitVec.toNat_or,Go.ofInt_u64 a (by omega),Go.ofInt_u64 b (by omega)]
 exact wraps_i64 _ (by omega) (by omega)
end Go.Proofs.YtajhkncolbgkbaaDoor
end
section
namespace Go.Proofs.YtajhkncolbgkbaaDoor
theorem i64_xor_nat (a b:Nat) (ha:a<4611686018427387904) (hb:b<4611686018427387904):bits .xor .i64 (a:Int) (b:Int)=((a ^^^ b:Nat):Int):=by
 have hx:a ^^^ b<2 ^ 62:=Nat.xor_lt_two_pow (by omega) (by omega)
 show IntKind.i64.wrap ((BitVec.ofInt 64 (a:Int) ^^^ BitVec.ofInt 64 (b:Int)).toNat:Int)=_
 rw [BitVec.toNat_xor,Go.ofInt_u64 a (by omega),Go.ofInt_u64 b (by omega)]
 exact wraps_i64 _ (by omega) (by omega)
theorem i64_and1_nat (c:Nat) (h:c<4611686018427387904):bits .and .i64 (c:Int) 1=((c % 2:Nat):Int):=by
 have:=bits_mask .i64 62 (by decide) wraps_i64 1 (by decide) (c:Int) (by omega) (by rw [show (2:Int) ^ 62=4611686018427387904 by decide];omega)
 rw [show ((2:Int) ^ 1 - 1)=1 by decide] at this
 rw [this];simp
theorem crc_prog {c:Nat} (h:c<2 ^ 32):bits .xor .i64 ((c:Int) / 2) (IntKind.i64.wrap (3988292384 * bits .and .i64 (c:Int) 1))=((crcS c:Nat):Int):=by
 rw [i64_and1_nat c (by omega)]
 unfold crcS
 rcases Nat.mod_two_eq_zero_or_one c with e | e
 · rw [e,if_neg (by decide),show IntKind.i64.wrap (3988292384 * ((0:Nat):Int))=((0:Nat):Int) from IntWalk.i64_in _ (by omega)]
   rw [show (c:Int) / 2=((c / 2:Nat):Int) by omega,i64_xor_nat _ _ (by omega) (by omega),Nat.xor_zero]
 · rw [e,if_pos rfl,show IntKind.i64.wrap (3988292384 * ((1:Nat):Int))=((crcP:Nat):Int) by rw [show (3988292384 * ((1:Nat):Int))=((crcP:Nat):Int) by unfold crcP;omega];exact IntWalk.i64_in _ (by unfold crcP;omega)]
   rw [show (c:Int) / 2=((c / 2:Nat):Int) by omega,i64_xor_nat _ _ (by omega) (by unfold crcP;omega)]
theorem crc_in {c:Nat} (h:c<2 ^ 32) {x:Int} (hx:0≤x∧x≤255):bits .xor .i64 (c:Int) x=((c ^^^ x.toNat:Nat):Int):=by
 obtain ⟨n,rfl⟩:=Int.eq_ofNat_of_zero_le hx.1
 exact i64_xor_nat c n (by omega) (by omega)
end Go.Proofs.YtajhkncolbgkbaaDoor
end
section
namespace Go.Proofs.YtajhkncolbgkbaaDoor
def bytesP (n k:Nat):List Int:=(List.range k).map fun i=>((n / 256 ^ i % 256:Nat):Int)
theorem bytes_len (n k:Nat):(bytesP n k).length=k:=by simp [bytesP]
theorem bytes_four (n:Nat):bytesP n 4=fourP n:=by
 simp [bytesP,fourP,List.range_succ]
theorem bytes_two (n:Nat):bytesP n 2=[((n % 256:Nat):Int),((n / 256 % 256:Nat):Int)]:=by
 simp [bytesP,List.range_succ]
theorem bytes_at {n k i:Nat} (h:i<k):(bytesP n k)[i]? = some ((n / 256 ^ i % 256:Nat):Int):=by
 unfold bytesP;rw [List.getElem?_map,List.getElem?_range h];rfl
def numK:List Int→Nat
 | []=>0
 | x::l=>x.toNat+256 * numK l
theorem numK_app (l:List Int) (x:Int):numK (l++[x])=numK l+256 ^ l.length * x.toNat:=by
 induction l with
 | nil=>simp [numK]
 | cons y l ih=>simp only [List.cons_append,numK,ih,List.length_cons,Nat.pow_succ,Nat.mul_add];rw [Nat.mul_comm (256 ^ l.length) 256,Nat.mul_assoc];omega
theorem numK_lt {l:List Int} (h:Byts l):numK l<256 ^ l.length:=by
 induction l with
 | nil=>simp [numK]
 | cons y l ih =>
   have h1:=ih fun x hx=>h x (List.mem_cons_of_mem _ hx)
   have h2:=h y (List.mem_cons_self ..)
   simp only [numK,List.length_cons,Nat.pow_succ];omega
theorem numK_four {l:List Int} (h:4≤l.length):numK (l.take 4)=numP l:=by
 match l,h with
 | a::b::c::d::r,_=>simp [numK,numP];omega
theorem numK_two {l:List Int} {i:Nat} (h:i+2≤l.length):numK ((l.drop i).take 2)=(l.getD i 0).toNat+256 * (l.getD (i+1) 0).toNat:=by
 have h1:l.drop i=l[i]'(by omega)::l[i+1]'(by omega)::l.drop (i+2):=by
  rw [List.drop_eq_getElem_cons (by omega),List.drop_eq_getElem_cons (by omega)]
 rw [h1]
 simp only [List.take_succ_cons,List.take_zero,numK]
 rw [List.getD_eq_getElem?_getD,List.getD_eq_getElem?_getD,List.getElem?_eq_getElem (by omega),List.getElem?_eq_getElem (by omega)]
 simp
theorem or_step {n i:Nat} (hi:i<4) (hn:n<256 ^ i) {x:Int} (hx:0≤x∧x≤255):bits .or .i64 (n:Int) (IntKind.i64.wrap (x * 2 ^ (8 * i)))=((n+256 ^ i * x.toNat:Nat):Int):=by
 obtain ⟨y,rfl⟩:=Int.eq_ofNat_of_zero_le hx.1
 have h8:(2:Nat) ^ (8 * i)=256 ^ i:=by rw [Nat.pow_mul]
 have h8i:(2:Int) ^ (8 * i)=((256 ^ i:Nat):Int):=by rw [←h8];simp
 have hle:256 ^ i≤256 ^ 3:=Nat.pow_le_pow_right (by decide) (by omega)
 have hy:y≤255:=by omega
 have hm:y * 256 ^ i≤255 * 256 ^ 3:=Nat.mul_le_mul hy hle
 rw [h8i,show ((y:Int) * ((256 ^ i:Nat):Int))=((y * 256 ^ i:Nat):Int) by simp,show IntKind.i64.wrap ((y * 256 ^ i:Nat):Int)=((y * 256 ^ i:Nat):Int) from IntWalk.i64_in _ (by omega)]
 rw [i64_or_nat _ _ (by omega) (by omega)]
 have h2:n ||| y * 256 ^ i=n+256 ^ i * y:=by
  rw [Nat.mul_comm y,←h8,Nat.or_comm,←Nat.two_pow_add_eq_or_of_lt (by rw [h8];exact hn) y]
  omega
 rw [h2];simp
end Go.Proofs.YtajhkncolbgkbaaDoor
end
section
namespace Go.Proofs.YtajhkncolbgkbaaDoor
open Go.RowKit Go.Sort Go.Maps
theorem crcR_succ : ∀ (k c:Nat),crcR (k+1) c=crcS (crcR k c)
 | 0,_=>rfl
 | k + 1, c => by
   show crcR (k+1) (crcS c)=crcS (crcR k (crcS c))
   exact crcR_succ k (crcS c)
theorem crcT_take {t:List Int} {k:Nat} {x:Int} (h:t[k]? = some x) (c:Nat):crcT (t.take (k+1)) c=crcB (crcT (t.take k) c) x:=by
 have hk:k<t.length:=(List.getElem?_eq_some_iff.1 h).1
 rw [List.take_succ_eq_append_getElem hk,crcT_app]
 rw [List.getElem?_eq_getElem hk] at h
 rw [Option.some.inj h];rfl
set_option maxRecDepth 100000 in
set_option maxHeartbeats 2000000 in
theorem crc_any (t:List Int) (hb:Byts t) (hl:t.length≤100000) (w:World) :
 Calls Tryd.prog 70 #[.string (strOfNums t)] w fun e w'=>e = .returned (.int .i64 (crcV t:Nat))∧Below w.heap.size w w':=by
 obtain ⟨cT,W,hcv,hsl,hbT⟩:=bytes_of_str (P:=Tryd.prog) 9 75 5 Tryd.underlying9 Tryd.underlying75 Tryd.underlying5 hb w
 have HB:=Bx.mk hbT
 have HS:=Bx.mk hsl
 obtain ⟨n,hn⟩ : ∃ n,n=t.length:=⟨_,rfl⟩
 rw [←hn] at hcv hl
 have Hn:=Bx.mk hn
 have Hb:=Bx.mk hb
 clear hbT hsl hn hb
 go_enter Tryd.func70,Tryd.ntmps70
 go_wp2_with fail
 clear hcv
 go_loopw [3,9] (fun v3 v9 wr => ∃ k:Nat,k≤n∧v9 = .int .i64 k∧v3 = .int .i64 (crcT (t.take k) 4294967295:Nat)∧Bx (Below W.heap.size W wr)) (fun _ i _=>n - (intOf i).toNat)
 case atStart=>exact ⟨0,Nat.zero_le _,rfl,by simp [crcT],⟨Below.refl _ _⟩⟩
 case round =>
  obtain ⟨k,hk,rfl,rfl,HW⟩:=hrel
  have hc:=crcT_lt (l:=t.take k) (fun x hx=>Hb.out x (List.mem_of_mem_take hx)) (c:=4294967295) (by decide)
  by_cases hlt:k<n
  · have t0:decide ((k:Int)<(n:Int))=true:=by simp;omega
    obtain ⟨x,hx⟩ : ∃ x,t[k]? = some x:=⟨_,List.getElem?_eq_getElem (by rw [←Hn.out];exact hlt)⟩
    have hxb:=Hb.out x (List.mem_of_getElem? hx)
    have Hx:=Bx.mk hx
    obtain ⟨b,off,e,hcell⟩:=HS.out k x hx
    simp only [Option.some.injEq,Addr.mk.injEq,and_true] at e
    obtain ⟨rfl,rfl⟩:=e
    rw [Nat.zero_add] at hcell
    have c0:=cell_later HW.out hcell
    have hT:=Bx.mk (crcT_take hx 4294967295)
    have hin:=crc_in hc hxb
    have hx8:IntKind.i64.wrap x=x:=IntWalk.i64_in _ (by omega)
    have hlt32:crcT (t.take k) 4294967295 ^^^ x.toNat<2 ^ 32:=Nat.xor_lt_two_pow hc (by omega)
    have hB:Bx (crcT (t.take (k+1)) 4294967295=crcR 8 (crcT (t.take k) 4294967295 ^^^ x.toNat)):=⟨by rw [hT.out];rfl⟩
    clear hT hx hcell hc
    generalize crcT (t.take k) 4294967295=cc at *
    obtain ⟨c1,hc1⟩ : ∃ c1,c1=cc ^^^ x.toNat:=⟨_,rfl⟩
    rw [←hc1] at hB hin hlt32
    clear hc1
    have b1:(0:Int)≤(k:Int):=by omega
    have b2:(k:Int)<(n:Int):=by omega
    go_wp2_with fail
    clear c0 hin
    go_loopw [3,17] (fun v3 v17 wr => ∃ j:Nat,j≤8∧v17 = .int .i64 j∧v3 = .int .i64 (crcR j c1:Nat)∧Bx (Below W.heap.size W wr)) (fun _ i _=>8 - (intOf i).toNat)
    case atStart=>exact ⟨0,Nat.zero_le _,rfl,rfl,HW⟩
    case round =>
     clear HW
     obtain ⟨j,hj,rfl,rfl,HW⟩:=hrel
     by_cases hjl:j<8
     · have t1:decide ((j:Int)<8)=true:=by simp;omega
       have hcj:=crcR_lt j hlt32
       have hs:=Bx.mk (crcR_succ j c1)
       generalize crcR j c1=cj at *
       have hp:=crc_prog hcj
       obtain ⟨cm,hcm⟩ : ∃ x,bits .and .i64 (cj:Int) 1=x:=⟨_,rfl⟩
       rw [hcm] at hp
       obtain ⟨cp,hcp⟩ : ∃ x,IntKind.i64.wrap (3988292384 * cm)=x:=⟨_,rfl⟩
       rw [hcp] at hp
       go_wp2_with fail
       go_roundw
       case rel=>exact ⟨j+1,by omega,by go_num,by rw [hs.out],HW⟩
       case measure=>simp [intOf];omega
     · obtain rfl:j=8:=by omega
       have t1:decide (((8:Nat):Int)<8)=false:=by decide
       go_wp2_with fail
       go_roundw
       case rel=>exact ⟨k+1,by omega,by go_num,by rw [hB.out],HW⟩
       case measure=>simp [intOf];omega
  · obtain rfl:k=n:=by omega
    have t0:decide ((k:Int)<(k:Int))=false:=by simp
    have e:Bx (t.take k=t):=⟨List.take_of_length_le (by rw [←Hn.out];exact Nat.le_refl _)⟩
    rw [e.out] at hc ⊢
    have hx:bits .xor .i64 ((crcT t 4294967295:Nat):Int) 4294967295=((crcV t:Nat):Int):=i64_xor_nat _ 4294967295 (by omega) (by omega)
    generalize crcT t 4294967295=ct at *
    go_wp2_with fail
    go_ret
    exact ⟨rfl,HB.out.trans (HW.out.mono HB.out.size)⟩
end Go.Proofs.YtajhkncolbgkbaaDoor
end
section
namespace Go.Proofs.YtajhkncolbgkbaaDoor
open Go.RowKit Go.Sort Go.Maps
theorem shr_bytes (n i:Nat) (hi:i<4):Op.shift .shr .i64 (n:Int) .i64 (8 * (i:Int))=pure (.int .i64 ((n / 256 ^ i:Nat):Int)):=by
 have:=shift_shr_i64 (x:=(n:Int)) (yk:=.i64) (y:=8 * (i:Int)) (by omega) (by omega)
 refine this.trans ?_
 rw [show (8 * (i:Int)).toNat=8 * i by omega,show (2:Int) ^ (8 * i)=((256 ^ i:Nat):Int) by rw [show (256:Nat) ^ i=2 ^ (8 * i) by rw [Nat.pow_mul]];simp]
 simp
theorem shl_bytes (x:Int) (i:Nat) (hi:i<4):Op.shift .shl .i64 x .i64 (8 * (i:Int))=pure (.int .i64 (IntKind.i64.wrap (x * 2 ^ (8 * i)))):=by
 have:=shift_shl_i64 (x:=x) (yk:=.i64) (y:=8 * (i:Int)) (by omega) (by omega)
 refine this.trans ?_
 rw [show (8 * (i:Int)).toNat=8 * i by omega]
set_option maxRecDepth 100000 in
set_option maxHeartbeats 1000000 in
theorem bytes_any (n k:Nat) (hk:k≤4) (w:World) :
 Calls Tryd.prog 69 #[.int .i64 (n:Int),.int .i64 (k:Int)] w fun e w'=>e = .returned (.string (strOfNums (bytesP n k)))∧Below w.heap.size w w':=by
 have hmk : ∀ W,(Instr.makeSlice 75 (.int .i64 (k:Int)) (.int .i64 (k:Int))).run Tryd.prog W = .ok (.slice (some ⟨W.heap.size,0,none⟩) k k) (W.alloc (.cells (madeCells #[.int .u8 0] k) 5)) :=
  fun W=>run_make_row' (P:=Tryd.prog) 75 5 (.int .u8 0) 1 Tryd.underlying75 (by kernel_rfl) rfl .i64 .i64 k (by omega) (by omega) W
 go_enter Tryd.func69,Tryd.ntmps69
 go_wp2_with fail
 clear hmk
 go_loopw [11] (fun i wr => ∃ j:Nat,j≤k∧i = .int .i64 j∧Bx (wr.rowIs w.heap.size 5 k (fun a=>.int .u8 (if a<j then ((n / 256 ^ a % 256:Nat):Int) else 0)))∧Bx (Below w.heap.size w wr)) (fun i _=>k - (intOf i).toNat)
 case atStart=>exact ⟨0,Nat.zero_le _,rfl,⟨(World.rowIs_made _ _ _ _).congr (fun i _=>rfl)⟩,⟨(Below.refl _ _).alloc (Nat.le_refl _) _⟩⟩
 case round =>
  obtain ⟨j,hj,rfl,hrow,hB⟩:=hrel
  by_cases hlt:j<k
  · have t0:decide ((j:Int)<(k:Int))=true:=by simp;omega
    have hsh:=shr_bytes n j (by omega)
    have hw8:IntKind.u8.wrap ((n / 256 ^ j:Nat):Int)=((n / 256 ^ j % 256:Nat):Int):=by
     rw [IntKind.wrap_u8];omega
    have hw:IntKind.i64.wrap (8 * (j:Int))=8 * (j:Int):=IntWalk.i64_in _ (by omega)
    obtain ⟨y,hy⟩ : ∃ y,y=8 * (j:Int):=⟨_,rfl⟩
    rw [←hy] at hsh
    replace hw:IntKind.i64.wrap (8 * (j:Int))=y:=by rw [hy];exact hw
    clear hy
    obtain ⟨x,hx⟩ : ∃ x,x=n / 256 ^ j % 256:=⟨_,rfl⟩
    rw [←hx] at hw8
    have Hx:=Bx.mk hx
    clear hx
    obtain ⟨q,hq⟩ : ∃ q,q=n / 256 ^ j:=⟨_,rfl⟩
    rw [←hq] at hw8 hsh
    clear hq
    have b1:(0:Int)≤(j:Int):=by omega
    have b2:(j:Int)<(k:Int):=by omega
    have hcell:=hrow.out.cell hlt
    have hfr:=hrow.out.frozen j
    go_wp2_with fail
    have hrow2:=Bx.mk ((hrow.out.set j (.int .u8 (x:Int))).congr (g:=fun a=>.int .u8 (if a<j+1 then ((n / 256 ^ a % 256:Nat):Int) else 0)) (fun a ha=>by
     by_cases e:a=j
     · rw [e];simp only [if_true];rw [if_pos (by omega),Hx.out]
     · simp only [e,if_false];by_cases h5:a<j
       · rw [if_pos h5,if_pos (by omega)]
       · rw [if_neg h5,if_neg (by omega)]))
    have hB2:=Bx.mk (show Below w.heap.size w (wr.setCell ⟨w.heap.size,j,none⟩ (.int .u8 (x:Int))) from hB.out.setCell (Nat.le_refl _) _)
    clear hcell hfr
    go_roundw
    case rel=>exact ⟨j+1,by omega,by go_num,hrow2,hB2⟩
    case measure=>simp [intOf];omega
  · obtain rfl:j=k:=by omega
    have t0:decide ((j:Int)<(j:Int))=false:=by simp
    have hsl:Sl wr .u8 (some ⟨w.heap.size,0,none⟩) (bytesP n j):=fun i x hx=>⟨w.heap.size,0,rfl,by
     have hi:i<j:=by have:=(List.getElem?_eq_some_iff.1 hx).1;rwa [bytes_len] at this
     have:=hrow.out.cell hi
     simp only [hi,if_true] at this
     rw [Nat.zero_add,this]
     rw [bytes_at hi] at hx
     rw [Option.some.inj hx]⟩
    have hcv:=conv_str (P:=Tryd.prog) 75 5 9 Tryd.underlying75 Tryd.underlying5 Tryd.underlying9 hsl j j (bytes_len n j).symm
    clear hsl hrow
    go_wp2_with fail
    go_ret
    exact ⟨rfl,hB.out⟩
set_option maxRecDepth 100000 in
set_option maxHeartbeats 1000000 in
theorem number_any (t:List Int) (hb:Byts t) (hl:t.length≤4) (w:World) :
 Calls Tryd.prog 64 #[.string (strOfNums t)] w fun e w'=>e = .returned (.int .i64 (numK t:Nat))∧Below w.heap.size w w':=by
 obtain ⟨n,hn⟩ : ∃ n,n=t.length:=⟨_,rfl⟩
 have hsz:(strOfNums t).size=n:=by rw [strOfNums_size,hn]
 have Hn:=Bx.mk hn
 have Hb:=Bx.mk hb
 rw [←hn] at hl
 clear hn hb
 go_enter Tryd.func64,Tryd.ntmps64
 go_wp2_with fail
 go_loopw [2,6] (fun v2 v6 wr => ∃ k:Nat,k≤n∧v6 = .int .i64 k∧v2 = .int .i64 (numK (t.take k):Nat)∧wr=w) (fun _ i _=>n - (intOf i).toNat)
 case atStart=>exact ⟨0,Nat.zero_le _,rfl,by simp [numK],rfl⟩
 case round =>
  obtain ⟨k,hk,rfl,rfl,rfl⟩:=hrel
  by_cases hlt:k<n
  · have t0:decide ((k:Int)<(n:Int))=true:=by simp;omega
    obtain ⟨x,hx⟩ : ∃ x,t[k]? = some x:=⟨_,List.getElem?_eq_getElem (by rw [←Hn.out];exact hlt)⟩
    have hxb:=Hb.out x (List.mem_of_getElem? hx)
    obtain ⟨hk2,hget⟩:=str_get Hb.out hx
    have hnk:=numK_lt (l:=t.take k) (fun x hx=>Hb.out x (List.mem_of_mem_take hx))
    have hlk:(t.take k).length=k:=by rw [List.length_take,←Hn.out];omega
    rw [hlk] at hnk
    have hor:=or_step (n:=numK (t.take k)) (i:=k) (by omega) hnk hxb
    have hN:Bx (numK (t.take (k+1))=numK (t.take k)+256 ^ k * x.toNat):=⟨by
     rw [List.take_succ_eq_append_getElem (by rw [←Hn.out];exact hlt),numK_app,hlk]
     rw [List.getElem?_eq_getElem (by rw [←Hn.out];exact hlt)] at hx
     rw [Option.some.inj hx]⟩
    have hsh:=shl_bytes x k (by omega)
    have hw:IntKind.i64.wrap (8 * (k:Int))=8 * (k:Int):=IntWalk.i64_in _ (by omega)
    have hx8:IntKind.i64.wrap x=x:=IntWalk.i64_in _ (by omega)
    obtain ⟨y,hy⟩ : ∃ y,y=8 * (k:Int):=⟨_,rfl⟩
    rw [←hy] at hsh
    replace hw:IntKind.i64.wrap (8 * (k:Int))=y:=by rw [hy];exact hw
    clear hy
    obtain ⟨z,hz⟩ : ∃ z,z=IntKind.i64.wrap (x * 2 ^ (8 * k)):=⟨_,rfl⟩
    rw [←hz] at hsh hor
    obtain ⟨n2,hn2⟩ : ∃ n2,n2=numK (t.take k)+256 ^ k * x.toNat:=⟨_,rfl⟩
    rw [←hn2] at hN hor
    clear hz hn2 hx hlk hnk
    have b1:(0:Int)≤(k:Int):=by omega
    have b2:(k:Int)<(n:Int):=by omega
    generalize numK (t.take k)=n1 at *
    go_wp2_with fail
    go_roundw
    case rel=>exact ⟨k+1,by omega,by go_num,by rw [hN.out],by first | rfl | trivial⟩
    case measure=>simp [intOf];omega
  · obtain rfl:k=n:=by omega
    have t0:decide ((k:Int)<(k:Int))=false:=by simp
    have e:Bx (t.take k=t):=⟨List.take_of_length_le (by rw [←Hn.out];exact Nat.le_refl _)⟩
    rw [e.out]
    go_wp2_with fail
    go_ret
    exact ⟨rfl,Below.refl _ _⟩
end Go.Proofs.YtajhkncolbgkbaaDoor
end
section
namespace Go.Proofs.YtajhkncolbgkbaaDoor
open Go.RowKit Go.Sort Go.Maps
theorem rep_zeros (n:Nat):(⟨(Lib.repeatL (ByteArray.mk #[0]).data.toList n).toArray⟩:ByteArray)=strOfNums (zerosP n):=by
 have h : ∀ n,Lib.repeatL [(0:UInt8)] n=(zerosP n).map fun x=>UInt8.ofNat x.toNat:=by
  intro n
  induction n with
  | zero=>rfl
  | succ n ih =>
    show [(0:UInt8)]++Lib.repeatL [(0:UInt8)] n=_
    rw [ih];unfold zerosP;rw [List.replicate_succ,List.map_cons];rfl
 have h2:(ByteArray.mk #[(0:UInt8)]).data.toList=[0]:=rfl
 rw [h2,h]
 have:=strOfNums_data (zerosP n)
 rw [←this]
set_option maxRecDepth 100000 in
set_option maxHeartbeats 1000000 in
theorem blank_any (n:Nat) (hn:n≤1000) (w:World):Calls Tryd.prog 65 #[.int .i64 (n:Int)] w fun e w'=>e = .returned (.string (strOfNums (zerosP n)))∧Below w.heap.size w w':=by
 have hr:Bx (∀ W,Calls Tryd.prog 62 #[.string ⟨#[0]⟩,.int .i64 (n:Int)] W fun e w'=>e = .returned (.string (strOfNums (zerosP n)))∧Below W.heap.size W w'):=⟨fun W=>by
  match n,hn with
  | 0,_=>exact (Tryd.strings_Repeat_zero ⟨#[0]⟩ W).mono fun e w' h=>⟨by rw [h.1];rfl,h.2 ▸ Below.refl _ _⟩
  | 1,_=>exact (Tryd.strings_Repeat_one ⟨#[0]⟩ W).mono fun e w' h=>⟨by rw [h.1];rfl,h.2 ▸ Below.refl _ _⟩
  | n + 2, hn =>
    have hs:(ByteArray.mk #[(0:UInt8)]).size=1:=rfl
    have:=Tryd.strings_Repeat_main ⟨#[0]⟩ (n+2) W (by omega) (by omega) (by rw [hs];omega) (by rw [hs];omega)
    rw [rep_zeros] at this
    exact this⟩
 go_enter Tryd.func65,Tryd.ntmps65
 go_wp2_with fail
 refine (hr.out _).mono ?_
 rintro _ w1 ⟨rfl,hb⟩
 have HB:=Bx.mk hb
 clear hb hr
 go_wp2_with fail
 go_ret
 exact ⟨rfl,HB.out⟩
def sealV (n:Int) (d:List Int):List Int:=if 1≤n∧n≤1073741824∧d.length=116 then sealP n.toNat d else []
set_option maxRecDepth 100000 in
set_option maxHeartbeats 1000000 in
theorem seal_any (n:Int) (d:List Int) (hb:Byts d) (hl:d.length≤10000) (w:World) :
 Calls Tryd.prog 46 #[.int .i64 n,.string (strOfNums d)] w fun e w'=>e = .returned (.string (strOfNums (sealV n d)))∧Below w.heap.size w w':=by
 have hsz:(strOfNums d).size=d.length:=strOfNums_size d
 by_cases hok:1≤n∧n≤1073741824∧d.length=116
 · obtain ⟨h1,h2,h3⟩:=hok
   have hv:sealV n d=sealP n.toNat d:=by unfold sealV;rw [if_pos ⟨h1,h2,h3⟩]
   obtain ⟨m,rfl⟩ : ∃ m:Nat,n=(m:Int):=⟨n.toNat,by omega⟩
   rw [Int.toNat_natCast] at hv
   have t0:decide ((m:Int)<1)=false:=by simp;omega
   have t1:decide ((m:Int) > 1073741824)=false:=by simp;omega
   have t1b:decide (1073741824<m)=false:=by simp;omega
   rw [h3] at hsz
   have hby:Bx (∀ (x:Nat) W,Calls Tryd.prog 69 #[.int .i64 (x:Int),.int .i64 4] W fun e w'=>e = .returned (.string (strOfNums (fourP x)))∧Below W.heap.size W w'):=⟨fun x W=>by
    have:=bytes_any x 4 (by decide) W
    rwa [bytes_four] at this⟩
   have hb2:Byts (fourP m++d):=fun x hx=>by
    rcases List.mem_append.1 hx with h | h
    · exact byts_four m x h
    · exact hb x h
   have hcr:=Bx.mk fun W=>crc_any (fourP m++d) hb2 (by simp [four_len];omega) W
   have a1:strOfNums (fourP m)++strOfNums d=strOfNums (fourP m++d):=str_append _ _
   have a2:strOfNums (fourP m++d)++strOfNums (fourP (crcV (fourP m++d)))=strOfNums (fourP m++d++fourP (crcV (fourP m++d))):=str_append _ _
   have a3:strOfNums (fourP m++d++fourP (crcV (fourP m++d)))++strOfNums (fourP m)=strOfNums (sealV (m:Int) d):=by rw [hv];exact str_append _ _
   have z1:(strOfNums (fourP m)).size=4:=by rw [strOfNums_size];rfl
   have z2:(strOfNums (fourP m++d)).size=120:=by rw [strOfNums_size,List.length_append,h3,four_len]
   have z3:(strOfNums (fourP (crcV (fourP m++d)))).size=4:=by rw [strOfNums_size];rfl
   have z4:(strOfNums (fourP m++d++fourP (crcV (fourP m++d)))).size=124:=by rw [strOfNums_size,List.length_append,List.length_append,h3,four_len,four_len]
   have hb4:=Bx.mk (hby.out m)
   have hb5:=Bx.mk (hby.out (crcV (fourP m++d)))
   clear hb2 hv hby hb
   generalize strOfNums (sealV (m:Int) d)=R at *
   generalize strOfNums (fourP m++d++fourP (crcV (fourP m++d)))=S3 at *
   generalize strOfNums (fourP (crcV (fourP m++d)))=S2 at *
   generalize crcV (fourP m++d)=cv at *
   generalize strOfNums (fourP m++d)=S1 at *
   generalize strOfNums (fourP m)=S4 at *
   generalize strOfNums d=Sd at *
   go_enter Tryd.func46,Tryd.ntmps46
   go_wp2_with fail
   refine (hb4.out _).mono ?_
   rintro _ w1 ⟨rfl,hw1⟩
   have HB1:=Bx.mk hw1
   clear hw1
   go_wp2_with fail
   refine (hcr.out _).mono ?_
   rintro _ w2 ⟨rfl,hw2⟩
   have HB2:=Bx.mk (HB1.out.trans (hw2.mono HB1.out.size))
   clear hw2
   go_wp2_with fail
   refine (hb5.out _).mono ?_
   rintro _ w3 ⟨rfl,hw3⟩
   have HB3:=Bx.mk (HB2.out.trans (hw3.mono HB2.out.size))
   clear hw3
   go_wp2_with fail
   refine (hb4.out _).mono ?_
   rintro _ w4 ⟨rfl,hw4⟩
   have HB4:=Bx.mk (HB3.out.trans (hw4.mono HB3.out.size))
   clear hw4
   go_wp2_with fail
   go_ret
   exact ⟨rfl,HB4.out⟩
 · have hv:sealV n d=[]:=by unfold sealV;rw [if_neg hok]
   rw [hv]
   have he:strOfNums []=⟨#[]⟩:=rfl
   rw [he]
   obtain ⟨l,hln⟩ : ∃ l,l=d.length:=⟨_,rfl⟩
   rw [←hln] at hok hsz
   generalize strOfNums d=Sd at *
   clear hv he hb hln hl
   by_cases h1:n<1
   · have t0:decide (n<1)=true:=by simpa using h1
     go_enter Tryd.func46,Tryd.ntmps46
     go_wp2_with fail
     go_ret
     exact ⟨rfl,Below.refl _ _⟩
   · have t0:decide (n<1)=false:=by simpa using h1
     by_cases h2:n > 1073741824
     · have t1:decide (n > 1073741824)=true:=by simpa using h2
       go_enter Tryd.func46,Tryd.ntmps46
       go_wp2_with fail
       go_ret
       exact ⟨rfl,Below.refl _ _⟩
     · have t1:decide (n > 1073741824)=false:=by simpa using h2
       have h3 : ¬l=116:=fun h=>hok ⟨by omega,by omega,h⟩
       have t2:((l:Int) != 116)=true:=by simp;omega
       have t2b:((l:Int) == 116)=false:=by simp;omega
       have t2c:decide ((l:Int)=116)=false:=by simp;omega
       have t2d : ¬(l:Int)=116:=by omega
       clear hok
       go_enter Tryd.func46,Tryd.ntmps46
       go_wp2_with fail
       go_ret
       exact ⟨rfl,Below.refl _ _⟩
end Go.Proofs.YtajhkncolbgkbaaDoor
end
section
namespace Go.Proofs.YtajhkncolbgkbaaDoor
namespace Oct
namespace Tr
def pos (ch:Fin 8→Tr) (k:Nat):Nat:=2+((List.ofFn fun i=>enc (ch i)).take k).flatten.length
def small:Nat→Tr→Prop
 | _,.uni _=>True
 | _,.brick _=>True
 | 0,.node _ _=>False
 | n+1,.node _ ch => ∀ i,small n (ch i)
end Tr
end Oct
end Go.Proofs.YtajhkncolbgkbaaDoor
end
section
namespace Go.Proofs.YtajhkncolbgkbaaDoor
open Go.RowKit Go.Sort
open Oct
theorem strEq_iff (a b:ByteArray):(a.toList == b.toList)=true ↔ a=b:=by
 rw [beq_iff_eq]
 constructor
 · intro h
   rw [ByteArray.toList_eq,ByteArray.toList_eq] at h
   exact ByteArray.ext (Array.ext' h)
 · intro h;rw [h]
end Go.Proofs.YtajhkncolbgkbaaDoor
end
section
namespace Go.Proofs.YtajhkncolbgkbaaDoor
open Go.RowKit Go.Sort Go.Maps
def datOf (p:List Int):List Int:=if goodP p then dataP p else []
def unV (p:List Int):Value:=.tuple #[.int .i64 (numOf p:Nat),.string (strOfNums (datOf p)),.bool (decide (goodP p))]
theorem good_iff {p:List Int} (hl:p.length=128):goodP p ↔ (p=sealV (numP p) (dataP p)∨p=zerosP 128):=by
 have hd:((p.drop 4).take 116).length=116:=by simp [hl]
 unfold goodP sealV dataP
 constructor
 · rintro ⟨_,h | ⟨h1,h2,h3⟩⟩
   · exact .inr h
   · refine .inl ?_
     rw [if_pos ⟨by omega,by omega,hd⟩,Int.toNat_natCast];exact h3
 · rintro (h | h)
   · by_cases hc:1≤(numP p:Int)∧(numP p:Int)≤1073741824∧((p.drop 4).take 116).length=116
     · rw [if_pos hc,Int.toNat_natCast] at h
       exact ⟨hl,.inr ⟨by omega,by omega,h⟩⟩
     · rw [if_neg hc] at h;rw [h] at hl;cases hl
   · exact ⟨hl,.inl h⟩
theorem byts_sealV {n:Int} {d:List Int} (h:Byts d):Byts (sealV n d):=by
 unfold sealV;split
 · exact byts_seal h
 · intro x hx;cases hx
theorem byts_zeros (n:Nat):Byts (zerosP n):=fun x hx=>by
 rw [List.eq_of_mem_replicate hx];omega
theorem strNe {a b:ByteArray} (h : ¬a=b):(a.toList == b.toList)=false:=by
 cases hb:(a.toList == b.toList) with
 | true=>exact absurd ((strEq_iff a b).1 hb) h
 | false=>rfl
set_option maxRecDepth 100000 in
set_option maxHeartbeats 1000000 in
theorem unseal_any (p:List Int) (hb:Byts p) (hl:p.length≤10000) (w:World) :
 Calls Tryd.prog 40 #[.string (strOfNums p)] w fun e w'=>e = .returned (unV p)∧Below w.heap.size w w':=by
 have hsz:(strOfNums p).size=p.length:=strOfNums_size p
 by_cases h128:p.length=128
 · have x4:strOfNums (p.take 4)=(strOfNums p).extract 0 4:=(str_extract p 0 4).symm
   have x116:strOfNums (dataP p)=(strOfNums p).extract 4 120:=(str_extract p 4 120).symm
   have hnu:=Bx.mk fun W=>number_any (p.take 4) (fun x hx=>hb x (List.mem_of_mem_take hx)) (by simp;omega) W
   rw [numK_four (by omega)] at hnu
   have hbd:Byts (dataP p):=fun x hx=>hb x (List.mem_of_mem_drop (List.mem_of_mem_take hx))
   have hse:=Bx.mk fun W=>seal_any (numP p) (dataP p) hbd (by unfold dataP;simp;omega) W
   have hbl:Bx (∀ W,Calls Tryd.prog 65 #[.int .i64 128] W fun e w'=>e = .returned (.string (strOfNums (zerosP 128)))∧Below W.heap.size W w'):=⟨fun W=>blank_any 128 (by omega) W⟩
   rw [h128] at hsz
   have hgi:=good_iff h128
   have hi1:strOfNums p=strOfNums (sealV (numP p) (dataP p)) ↔ p=sealV (numP p) (dataP p):=⟨fun e=>strOfNums_inj hb (byts_sealV hbd) e,fun e=>congrArg _ e⟩
   have hi2:strOfNums p=strOfNums (zerosP 128) ↔ p=zerosP 128:=⟨fun e=>strOfNums_inj hb (byts_zeros 128) e,fun e=>congrArg _ e⟩
   rw [←hi1,←hi2] at hgi
   have hU:unV p = .tuple #[.int .i64 ((if goodP p then numP p else 0:Nat):Int),.string (if goodP p then strOfNums (dataP p) else ⟨#[]⟩),.bool (decide (goodP p))]:=by
    unfold unV numOf datOf
    by_cases hg:goodP p
    · rw [if_pos hg,if_pos hg,if_pos hg]
    · rw [if_neg hg,if_neg hg,if_neg hg];rfl
   rw [hU]
   have HG:=Bx.mk hgi
   clear hgi hi1 hi2 hU hbd hb
   generalize strOfNums (sealV (numP p) (dataP p))=Ss at *
   generalize strOfNums (zerosP 128)=Sz at *
   rw [x116] at hse ⊢
   rw [x4] at hnu
   clear x4 x116
   generalize hn:numP p=n at *
   clear hn
   obtain ⟨gd,hgd⟩ : ∃ b,b=decide (goodP p):=⟨_,rfl⟩
   have hgd2:goodP p ↔ gd=true:=by rw [hgd];simp
   have hU:(Value.tuple #[.int .i64 ((if goodP p then n else 0:Nat):Int),.string (if goodP p then (strOfNums p).extract 4 120 else ⟨#[]⟩),.bool (decide (goodP p))])=(if gd=true then .tuple #[.int .i64 (n:Int),.string ((strOfNums p).extract 4 120),.bool true] else .tuple #[.int .i64 0,.string ⟨#[]⟩,.bool false]):=by
    rw [←hgd]
    by_cases hg:goodP p
    · rw [if_pos hg,if_pos hg,if_pos (hgd2.1 hg),hgd2.1 hg]
    · rw [if_neg hg,if_neg hg,if_neg (fun h=>hg (hgd2.2 h)),show gd=false by simpa using fun h=>hg (hgd2.2 h)];rfl
   rw [hU]
   have hG2:gd=true ↔ (strOfNums p=Ss∨strOfNums p=Sz):=hgd2.symm.trans HG.out
   clear hU hgd hgd2 HG
   generalize strOfNums p=Sp at *
   have HG:=Bx.mk hG2
   clear hG2 h128 hl
   by_cases e1:Sp=Ss
   · have hg:gd=true:=HG.out.2 (.inl e1)
     have n1:(Sp.toList == Ss.toList)=true:=(strEq_iff _ _).2 e1
     rw [if_pos hg]
     clear hbl HG hg e1
     go_enter Tryd.func40,Tryd.ntmps40
     go_upto_region 3 with fail
     have q0:=Bx.mk fun dk osk=>Calls.regrown_of (hnu.out (grow (redrawn w dk) osk))
     refine wp_region_quiet_below (by kernel_rfl) (by kernel_rfl) ?_
     repeat (first
      | go_big_quiet_step (first | with_reducible exact q0.out _ _)
      | quiet_step (first | with_reducible exact q0.out _ _))
     refine wpQuiet_nil ?_
     rintro _ ⟨⟨dq,osq⟩,rfl⟩
     have HB1:=Bx.mk (below_regrown w dq osq)
     generalize grow (redrawn w dq) osq=w1 at *
     clear q0 hnu
     go_wp2_with fail
     refine (hse.out _).mono ?_
     rintro _ w2 ⟨rfl,hw2⟩
     have HB2:=Bx.mk (HB1.out.trans (hw2.mono HB1.out.size))
     clear hw2 hse
     go_wp2_with fail
     go_ret3
     exact ⟨rfl,HB2.out⟩
   · have n1:(Sp.toList == Ss.toList)=false:=strNe e1
     by_cases e2:Sp=Sz
     · have hg:gd=true:=HG.out.2 (.inr e2)
       have n2:(Sp.toList == Sz.toList)=true:=(strEq_iff _ _).2 e2
       rw [if_pos hg]
       clear HG hg e1 e2
       go_enter Tryd.func40,Tryd.ntmps40
       go_upto_region 3 with fail
       have q0:=Bx.mk fun dk osk=>Calls.regrown_of (hnu.out (grow (redrawn w dk) osk))
       refine wp_region_quiet_below (by kernel_rfl) (by kernel_rfl) ?_
       repeat (first
        | go_big_quiet_step (first | with_reducible exact q0.out _ _)
        | quiet_step (first | with_reducible exact q0.out _ _))
       refine wpQuiet_nil ?_
       rintro _ ⟨⟨dq,osq⟩,rfl⟩
       have HB1:=Bx.mk (below_regrown w dq osq)
       generalize grow (redrawn w dq) osq=w1 at *
       clear q0 hnu
       go_wp2_with fail
       refine (hse.out _).mono ?_
       rintro _ w2 ⟨rfl,hw2⟩
       have HB2:=Bx.mk (HB1.out.trans (hw2.mono HB1.out.size))
       clear hw2 hse
       go_wp2_with fail
       refine (hbl.out _).mono ?_
       rintro _ w3 ⟨rfl,hw3⟩
       have HB3:=Bx.mk (HB2.out.trans (hw3.mono HB2.out.size))
       clear hw3 hbl
       go_wp2_with fail
       go_ret3
       exact ⟨rfl,HB3.out⟩
     · have hg : ¬gd=true:=fun h=>by
        rcases HG.out.1 h with h | h
        · exact e1 h
        · exact e2 h
       have n2:(Sp.toList == Sz.toList)=false:=strNe e2
       rw [if_neg hg]
       clear HG hg e1 e2
       go_enter Tryd.func40,Tryd.ntmps40
       go_upto_region 3 with fail
       have q0:=Bx.mk fun dk osk=>Calls.regrown_of (hnu.out (grow (redrawn w dk) osk))
       refine wp_region_quiet_below (by kernel_rfl) (by kernel_rfl) ?_
       repeat (first
        | go_big_quiet_step (first | with_reducible exact q0.out _ _)
        | quiet_step (first | with_reducible exact q0.out _ _))
       refine wpQuiet_nil ?_
       rintro _ ⟨⟨dq,osq⟩,rfl⟩
       have HB1:=Bx.mk (below_regrown w dq osq)
       generalize grow (redrawn w dq) osq=w1 at *
       clear q0 hnu
       go_wp2_with fail
       refine (hse.out _).mono ?_
       rintro _ w2 ⟨rfl,hw2⟩
       have HB2:=Bx.mk (HB1.out.trans (hw2.mono HB1.out.size))
       clear hw2 hse
       go_wp2_with fail
       refine (hbl.out _).mono ?_
       rintro _ w3 ⟨rfl,hw3⟩
       have HB3:=Bx.mk (HB2.out.trans (hw3.mono HB2.out.size))
       clear hw3 hbl
       go_wp2_with fail
       go_ret3
       exact ⟨rfl,HB3.out⟩
 · have hg : ¬goodP p:=fun h=>h128 h.1
   have hU:unV p = .tuple #[.int .i64 0,.string ⟨#[]⟩,.bool false]:=by
    unfold unV numOf datOf
    rw [if_neg hg,if_neg hg,decide_eq_false hg];rfl
   rw [hU]
   generalize p.length=l at *
   have t2:((l:Int) != 128)=true:=by simp;omega
   have t2b:((l:Int) == 128)=false:=by simp;omega
   have t2d : ¬(l:Int)=128:=by omega
   generalize strOfNums p=Sp at *
   clear hU hg hb hl
   go_enter Tryd.func40,Tryd.ntmps40
   go_wp2_with fail
   go_ret3
   exact ⟨rfl,Below.refl _ _⟩
end Go.Proofs.YtajhkncolbgkbaaDoor
end
