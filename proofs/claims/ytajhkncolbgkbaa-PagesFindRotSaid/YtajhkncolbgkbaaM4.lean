/- Shf, Psl, Enp, Stl, Inr, Pus: joined by program, for one claim. -/
import Derived.Shelf.Strings.Builder1
import Derived.Shelf.Strings.Builder2
import Derived.Shelf.Small.Bits
import Derived.Shelf.Small.Wraps
import Derived.Shelf.Strings.BuilderF
import Derived.Shelf.Strings.BuilderK
import Derived.Shelf.Strings.Builder2Cap
import Derived.Shelf.Strconv.Itoa0
import Derived.Shelf.Sort.Plain
import Derived.Shelf.Strings.Prefix
import Derived.Shelf.Bits.Mul64
import Derived.Shelf.Strings.Repeat
import Derived.Ground.Names2Prog
import Derived.Shelf.Slices.SearchI
import Derived.Shelf.Slices.In.SortNone
import Derived.Test.YtajhkncolbgkbaaProg
import Derived.Test.YtajhkncolbgkbaaM3
import Derived.Test.YtajhkncolbgkbaaM2
import Derived.Test.YtajhkncolbgkbaaM1
set_option linter.unusedVariables false
set_option linter.unusedSimpArgs false
section
namespace Go.Proofs
open Go.Shelf
def Try.lays189_ren:Go.Shelf.Ren:=⟨fun | 189=>58 | 125=>70 | 257=>69 | 128=>91 | 129=>92 | 294=>82 | 295=>83 | 296=>84 | 297=>85 | 298=>86 | 299=>87 | 216=>88 | 300=>89 | 301=>90 | 328=>95 | 329=>96 | 330=>97 | 331=>98 | 332=>99 | 215=>100 | 343=>101 | n=>n,fun | 28=>41 | 3=>3 | 46=>73 | 0=>0 | 51=>123 | 53=>126 | 4=>4 | 183=>135 | 182=>134 | 131=>140 | 5=>5 | 9=>9 | 218=>147 | 222=>151 | 228=>153 | 229=>154 | n=>n,fun | n=>n⟩
theorem Try.lays189:Go.Proofs.Lays.n189 Try.prog Try.lays189_ren:={
 mixed:=by kernel_rfl
 f125:=Try.func70.trans (congrArg some (by kernel_rfl))
 f128:=Try.func91.trans (congrArg some (by kernel_rfl))
 f129:=Try.func92.trans (congrArg some (by kernel_rfl))
 f189:=Try.func58.trans (congrArg some (by kernel_rfl))
 f215:=Try.func100.trans (congrArg some (by kernel_rfl))
 f216:=Try.func88.trans (congrArg some (by kernel_rfl))
 f257:=Try.func69.trans (congrArg some (by kernel_rfl))
 f294:=Try.func82.trans (congrArg some (by kernel_rfl))
 f295:=Try.func83.trans (congrArg some (by kernel_rfl))
 f296:=Try.func84.trans (congrArg some (by kernel_rfl))
 f297:=Try.func85.trans (congrArg some (by kernel_rfl))
 f298:=Try.func86.trans (congrArg some (by kernel_rfl))
 f299:=Try.func87.trans (congrArg some (by kernel_rfl))
 f300:=Try.func89.trans (congrArg some (by kernel_rfl))
 f301:=Try.func90.trans (congrArg some (by kernel_rfl))
 f328:=Try.func95.trans (congrArg some (by kernel_rfl))
 f329:=Try.func96.trans (congrArg some (by kernel_rfl))
 f330:=Try.func97.trans (congrArg some (by kernel_rfl))
 f331:=Try.func98.trans (congrArg some (by kernel_rfl))
 f332:=Try.func99.trans (congrArg some (by kernel_rfl))
 f343:=Try.func101.trans (congrArg some (by kernel_rfl))
 t0:=Try.underlying0
 a0:=Try.isAgg0
 z0:=Try.sizeOf0
 v0:=Try.zeroValue0
 t3:=Try.underlying3
 a3:=Try.isAgg3
 z3:=Try.sizeOf3
 v3:=Try.zeroValue3
 t4:=Try.underlying4
 a4:=Try.isAgg4
 z4:=Try.sizeOf4
 v4:=Try.zeroValue4
 t5:=Try.underlying5
 a5:=Try.isAgg5
 z5:=Try.sizeOf5
 v5:=Try.zeroValue5
 t9:=Try.underlying9
 a9:=Try.isAgg9
 z9:=Try.sizeOf9
 v9:=Try.zeroValue9
 t28:=Try.underlying41
 a28:=Try.isAgg41
 z28:=Try.sizeOf41
 v28:=Try.zeroValue41
 t46:=Try.underlying73
 a46:=Try.isAgg73
 z46:=Try.sizeOf73
 v46:=Try.zeroValue73
 t51:=Try.underlying123
 a51:=Try.isAgg123
 z51:=Try.sizeOf123
 v51:=Try.zeroValue123
 t53:=Try.underlying126
 a53:=Try.isAgg126
 z53:=Try.sizeOf126
 v53:=Try.zeroValue126
 t131:=Try.underlying140
 a131:=Try.isAgg140
 z131:=Try.sizeOf140
 v131:=Try.zeroValue140
 t182:=Try.underlying134
 a182:=Try.isAgg134
 z182:=Try.sizeOf134
 v182:=Try.zeroValue134
 t183:=Try.underlying135
 a183:=Try.isAgg135
 z183:=Try.sizeOf135
 v183:=Try.zeroValue135
 t218:=Try.underlying147
 a218:=Try.isAgg147
 z218:=Try.sizeOf147
 v218:=Try.zeroValue147
 t222:=Try.underlying151
 a222:=Try.isAgg151
 z222:=Try.sizeOf151
 v222:=Try.zeroValue151
 t228:=Try.underlying153
 a228:=Try.isAgg153
 z228:=Try.sizeOf153
 v228:=Try.zeroValue153
 t229:=Try.underlying154
 a229:=Try.isAgg154
 z229:=Try.sizeOf154
 v229:=Try.zeroValue154 }
open Go.Sort Go.RowKit in
theorem Try.slices_Sort_int (blk off cap:Nat) (zs:List Int) (w:World) (hH:Holds (Value.int .i64) w blk off zs.toArray) (hblk:blk<w.heap.size) (hsz:zs.length<4611686018427387904) :
 Calls Try.prog 58 #[.slice (some ⟨blk,off,none⟩) zs.length cap] w fun e w' =>
  e = .returned (.tuple #[]) ∧ ∃ n os,w'=grow (putRow (Value.int .i64) (Sort.ahead w n) blk off (zs.mergeSort fun x y=>decide (x≤y)).toArray) os:=Any.slices_Sort_int Try.lays189 blk off cap zs w hH hblk hsz
def Try.lays105_ren:Go.Shelf.Ren:=⟨fun | 105=>48 | 212=>59 | 99=>60 | 165=>61 | 166=>62 | 170=>63 | 169=>64 | 263=>71 | 264=>72 | 206=>73 | 240=>74 | 241=>75 | 276=>93 | 277=>94 | n=>n,fun | 9=>9 | 3=>3 | 4=>4 | 20=>20 | 0=>0 | 46=>73 | 109=>110 | 5=>5 | 72=>115 | 76=>118 | 51=>123 | 146=>124 | 53=>126 | 148=>127 | 70=>113 | 37=>66 | 75=>117 | 127=>129 | 164=>144 | 80=>65 | n=>n,fun | n=>n⟩
theorem Try.lays105:Go.Proofs.Lays.n105 Try.prog Try.lays105_ren:={
 mixed:=by kernel_rfl
 f99:=Try.func60.trans (congrArg some (by kernel_rfl))
 f105:=Try.func48.trans (congrArg some (by kernel_rfl))
 f165:=Try.func61.trans (congrArg some (by kernel_rfl))
 f166:=Try.func62.trans (congrArg some (by kernel_rfl))
 f169:=Try.func64.trans (congrArg some (by kernel_rfl))
 f170:=Try.func63.trans (congrArg some (by kernel_rfl))
 f206:=Try.func73.trans (congrArg some (by kernel_rfl))
 f212:=Try.func59.trans (congrArg some (by kernel_rfl))
 f240:=Try.func74.trans (congrArg some (by kernel_rfl))
 f241:=Try.func75.trans (congrArg some (by kernel_rfl))
 f263:=Try.func71.trans (congrArg some (by kernel_rfl))
 f264:=Try.func72.trans (congrArg some (by kernel_rfl))
 f276:=Try.func93.trans (congrArg some (by kernel_rfl))
 f277:=Try.func94.trans (congrArg some (by kernel_rfl))
 t0:=Try.underlying0
 a0:=Try.isAgg0
 z0:=Try.sizeOf0
 v0:=Try.zeroValue0
 t3:=Try.underlying3
 a3:=Try.isAgg3
 z3:=Try.sizeOf3
 v3:=Try.zeroValue3
 t4:=Try.underlying4
 a4:=Try.isAgg4
 z4:=Try.sizeOf4
 v4:=Try.zeroValue4
 t5:=Try.underlying5
 a5:=Try.isAgg5
 z5:=Try.sizeOf5
 v5:=Try.zeroValue5
 t9:=Try.underlying9
 a9:=Try.isAgg9
 z9:=Try.sizeOf9
 v9:=Try.zeroValue9
 t20:=Try.underlying20
 a20:=Try.isAgg20
 z20:=Try.sizeOf20
 v20:=Try.zeroValue20
 t37:=Try.underlying66
 a37:=Try.isAgg66
 z37:=Try.sizeOf66
 v37:=Try.zeroValue66
 t46:=Try.underlying73
 a46:=Try.isAgg73
 z46:=Try.sizeOf73
 v46:=Try.zeroValue73
 t51:=Try.underlying123
 a51:=Try.isAgg123
 z51:=Try.sizeOf123
 v51:=Try.zeroValue123
 t53:=Try.underlying126
 a53:=Try.isAgg126
 z53:=Try.sizeOf126
 v53:=Try.zeroValue126
 t70:=Try.underlying113
 a70:=Try.isAgg113
 z70:=Try.sizeOf113
 v70:=Try.zeroValue113
 t72:=Try.underlying115
 a72:=Try.isAgg115
 z72:=Try.sizeOf115
 v72:=Try.zeroValue115
 t75:=Try.underlying117
 a75:=Try.isAgg117
 z75:=Try.sizeOf117
 v75:=Try.zeroValue117
 t76:=Try.underlying118
 a76:=Try.isAgg118
 z76:=Try.sizeOf118
 v76:=Try.zeroValue118
 t109:=Try.underlying110
 a109:=Try.isAgg110
 z109:=Try.sizeOf110
 v109:=Try.zeroValue110
 t127:=Try.underlying129
 a127:=Try.isAgg129
 z127:=Try.sizeOf129
 v127:=Try.zeroValue129
 t146:=Try.underlying124
 a146:=Try.isAgg124
 z146:=Try.sizeOf124
 v146:=Try.zeroValue124
 t148:=Try.underlying127
 a148:=Try.isAgg127
 z148:=Try.sizeOf127
 v148:=Try.zeroValue127
 t164:=Try.underlying144
 a164:=Try.isAgg144
 z164:=Try.sizeOf144
 v164:=Try.zeroValue144 }
theorem Try.Builder_Extra_105:Builder.Extra Try.prog Try.lays105_ren:={
 sizeBuilder:=by kernel_rfl
 liesBuilder:=by kernel_rfl
 t5:=Try.underlying5
 a5:=Try.isAgg5
 z5:=Try.sizeOf5
 v5:=Try.zeroValue5
 infoByte:=by kernel_rfl
 cellsByte:=by kernel_rfl
 sizeByte:=by kernel_rfl
 neB5:=by decide }
open Go.RowKit Go.Lib in
theorem Try.strings_Repeat_main (s:ByteArray) (c:Nat) (w:World) (hc2:2≤c) (hc:c≤9223372036854775807) (hlen:s.size * c≤140737488355328) (h0:0<s.size) :
 Calls Try.prog 48 #[.string s,.int .i64 c] w fun e w'=>e = .returned (.string ⟨(Lib.repeatL s.data.toList c).toArray⟩)∧Below w.heap.size w w':=Any.strings_Repeat_main Try.lays105 Try.Builder_Extra_105 s c w hc2 hc hlen h0
open Go.RowKit Go.Lib in
theorem Try.strings_Repeat_zero (s:ByteArray) (w:World) :
 Calls Try.prog 48 #[.string s,.int .i64 0] w fun e w'=>e = .returned (.string ⟨#[]⟩)∧w'=w:=Any.strings_Repeat_zero Try.lays105 s w
open Go.RowKit Go.Lib in
theorem Try.strings_Repeat_one (s:ByteArray) (w:World) :
 Calls Try.prog 48 #[.string s,.int .i64 1] w fun e w'=>e = .returned (.string s)∧w'=w:=Any.strings_Repeat_one Try.lays105 s w
open Go.RowKit Go.Sort in
theorem Try.slices_Sort_int_none (p:Option Addr) (cap:Nat) (w:World) :
 Calls Try.prog 58 #[.slice p 0 cap] w fun e w'=>e = .returned (.tuple #[])∧w'=w:=Any.slices_Sort_int_none Try.lays189 p cap w
end Go.Proofs
end
section
namespace Go.Proofs.Ytajhkncolbgkbaa
open Go.RowKit Go.Sort Go.Maps
theorem rep_zeros (n:Nat):(⟨(Lib.repeatL (ByteArray.mk #[0]).data.toList n).toArray⟩:ByteArray)=strOfNums (zerosP n):=by
 have h : ∀ n,Lib.repeatL [(0:UInt8)] n=(zerosP n).map fun x=>UInt8.ofNat x.toNat:=by
  intro n
  induction n with
  | zero=>rfl
  | succ n ih =>
    show [(0:UInt8)]++Lib.repeatL [(0:UInt8)] n=_
    rw [ih];unfold zerosP;rw [List.replicate_succ,List.map_cons];rfl
 have h2:(ByteArray.mk #[(0:UInt8)]).data.toList=[0]:=rfl
 rw [h2,h]
 have:=strOfNums_data (zerosP n)
 rw [←this]
set_option maxRecDepth 100000 in
set_option maxHeartbeats 1000000 in
theorem blank_any (n:Nat) (hn:n≤1000) (w:World):Calls Try.prog 32 #[.int .i64 (n:Int)] w fun e w'=>e = .returned (.string (strOfNums (zerosP n)))∧Below w.heap.size w w':=by
 have hr:Bx (∀ W,Calls Try.prog 48 #[.string ⟨#[0]⟩,.int .i64 (n:Int)] W fun e w'=>e = .returned (.string (strOfNums (zerosP n)))∧Below W.heap.size W w'):=⟨fun W=>by
  match n,hn with
  | 0,_=>exact (Try.strings_Repeat_zero ⟨#[0]⟩ W).mono fun e w' h=>⟨by rw [h.1];rfl,h.2 ▸ Below.refl _ _⟩
  | 1,_=>exact (Try.strings_Repeat_one ⟨#[0]⟩ W).mono fun e w' h=>⟨by rw [h.1];rfl,h.2 ▸ Below.refl _ _⟩
  | n + 2, hn =>
    have hs:(ByteArray.mk #[(0:UInt8)]).size=1:=rfl
    have:=Try.strings_Repeat_main ⟨#[0]⟩ (n+2) W (by omega) (by omega) (by rw [hs];omega) (by rw [hs];omega)
    rw [rep_zeros] at this
    exact this⟩
 go_enter Try.func32,Try.ntmps32
 go_wp2_with fail
 refine (hr.out _).mono ?_
 rintro _ w1 ⟨rfl,hb⟩
 have HB:=Bx.mk hb
 clear hb hr
 go_wp2_with fail
 go_ret
 exact ⟨rfl,HB.out⟩
def sealV (n:Int) (d:List Int):List Int:=if 1≤n∧n≤1073741824∧d.length=116 then sealP n.toNat d else []
set_option maxRecDepth 100000 in
set_option maxHeartbeats 1000000 in
theorem seal_any (n:Int) (d:List Int) (hb:Byts d) (hl:d.length≤10000) (w:World) :
 Calls Try.prog 12 #[.int .i64 n,.string (strOfNums d)] w fun e w'=>e = .returned (.string (strOfNums (sealV n d)))∧Below w.heap.size w w':=by
 have hsz:(strOfNums d).size=d.length:=strOfNums_size d
 by_cases hok:1≤n∧n≤1073741824∧d.length=116
 · obtain ⟨h1,h2,h3⟩:=hok
   have hv:sealV n d=sealP n.toNat d:=by unfold sealV;rw [if_pos ⟨h1,h2,h3⟩]
   obtain ⟨m,rfl⟩ : ∃ m:Nat,n=(m:Int):=⟨n.toNat,by omega⟩
   rw [Int.toNat_natCast] at hv
   have t0:decide ((m:Int)<1)=false:=by simp;omega
   have t1:decide ((m:Int) > 1073741824)=false:=by simp;omega
   have t1b:decide (1073741824<m)=false:=by simp;omega
   rw [h3] at hsz
   have hby:Bx (∀ (x:Nat) W,Calls Try.prog 33 #[.int .i64 (x:Int),.int .i64 4] W fun e w'=>e = .returned (.string (strOfNums (fourP x)))∧Below W.heap.size W w'):=⟨fun x W=>by
    have:=bytes_any x 4 (by decide) W
    rwa [bytes_four] at this⟩
   have hb2:Byts (fourP m++d):=fun x hx=>by
    rcases List.mem_append.1 hx with h | h
    · exact byts_four m x h
    · exact hb x h
   have hcr:=Bx.mk fun W=>crc_any (fourP m++d) hb2 (by simp [four_len];omega) W
   have a1:strOfNums (fourP m)++strOfNums d=strOfNums (fourP m++d):=str_append _ _
   have a2:strOfNums (fourP m++d)++strOfNums (fourP (crcV (fourP m++d)))=strOfNums (fourP m++d++fourP (crcV (fourP m++d))):=str_append _ _
   have a3:strOfNums (fourP m++d++fourP (crcV (fourP m++d)))++strOfNums (fourP m)=strOfNums (sealV (m:Int) d):=by rw [hv];exact str_append _ _
   have z1:(strOfNums (fourP m)).size=4:=by rw [strOfNums_size];rfl
   have z2:(strOfNums (fourP m++d)).size=120:=by rw [strOfNums_size,List.length_append,h3,four_len]
   have z3:(strOfNums (fourP (crcV (fourP m++d)))).size=4:=by rw [strOfNums_size];rfl
   have z4:(strOfNums (fourP m++d++fourP (crcV (fourP m++d)))).size=124:=by rw [strOfNums_size,List.length_append,List.length_append,h3,four_len,four_len]
   have hb4:=Bx.mk (hby.out m)
   have hb5:=Bx.mk (hby.out (crcV (fourP m++d)))
   clear hb2 hv hby hb
   generalize strOfNums (sealV (m:Int) d)=R at *
   generalize strOfNums (fourP m++d++fourP (crcV (fourP m++d)))=S3 at *
   generalize strOfNums (fourP (crcV (fourP m++d)))=S2 at *
   generalize crcV (fourP m++d)=cv at *
   generalize strOfNums (fourP m++d)=S1 at *
   generalize strOfNums (fourP m)=S4 at *
   generalize strOfNums d=Sd at *
   go_enter Try.func12,Try.ntmps12
   go_wp2_with fail
   refine (hb4.out _).mono ?_
   rintro _ w1 ⟨rfl,hw1⟩
   have HB1:=Bx.mk hw1
   clear hw1
   go_wp2_with fail
   refine (hcr.out _).mono ?_
   rintro _ w2 ⟨rfl,hw2⟩
   have HB2:=Bx.mk (HB1.out.trans (hw2.mono HB1.out.size))
   clear hw2
   go_wp2_with fail
   refine (hb5.out _).mono ?_
   rintro _ w3 ⟨rfl,hw3⟩
   have HB3:=Bx.mk (HB2.out.trans (hw3.mono HB2.out.size))
   clear hw3
   go_wp2_with fail
   refine (hb4.out _).mono ?_
   rintro _ w4 ⟨rfl,hw4⟩
   have HB4:=Bx.mk (HB3.out.trans (hw4.mono HB3.out.size))
   clear hw4
   go_wp2_with fail
   go_ret
   exact ⟨rfl,HB4.out⟩
 · have hv:sealV n d=[]:=by unfold sealV;rw [if_neg hok]
   rw [hv]
   have he:strOfNums []=⟨#[]⟩:=rfl
   rw [he]
   obtain ⟨l,hln⟩ : ∃ l,l=d.length:=⟨_,rfl⟩
   rw [←hln] at hok hsz
   generalize strOfNums d=Sd at *
   clear hv he hb hln hl
   by_cases h1:n<1
   · have t0:decide (n<1)=true:=by simpa using h1
     go_enter Try.func12,Try.ntmps12
     go_wp2_with fail
     go_ret
     exact ⟨rfl,Below.refl _ _⟩
   · have t0:decide (n<1)=false:=by simpa using h1
     by_cases h2:n > 1073741824
     · have t1:decide (n > 1073741824)=true:=by simpa using h2
       go_enter Try.func12,Try.ntmps12
       go_wp2_with fail
       go_ret
       exact ⟨rfl,Below.refl _ _⟩
     · have t1:decide (n > 1073741824)=false:=by simpa using h2
       have h3 : ¬l=116:=fun h=>hok ⟨by omega,by omega,h⟩
       have t2:((l:Int) != 116)=true:=by simp;omega
       have t2b:((l:Int) == 116)=false:=by simp;omega
       have t2c:decide ((l:Int)=116)=false:=by simp;omega
       have t2d : ¬(l:Int)=116:=by omega
       clear hok
       go_enter Try.func12,Try.ntmps12
       go_wp2_with fail
       go_ret
       exact ⟨rfl,Below.refl _ _⟩
end Go.Proofs.Ytajhkncolbgkbaa
end
section
namespace Go.Proofs.Ytajhkncolbgkbaa
namespace Oct
namespace Tr
def pos (ch:Fin 8→Tr) (k:Nat):Nat:=2+((List.ofFn fun i=>enc (ch i)).take k).flatten.length
def small:Nat→Tr→Prop
 | _,.uni _=>True
 | _,.brick _=>True
 | 0,.node _ _=>False
 | n+1,.node _ ch => ∀ i,small n (ch i)
end Tr
end Oct
end Go.Proofs.Ytajhkncolbgkbaa
end
section
namespace Go.Proofs.Ytajhkncolbgkbaa
open Go.RowKit
def Slv (w:World) (a:Option Addr) (vs:List Value):Prop := ∀ i v,vs[i]? = some v → ∃ b off,a=some ⟨b,off,none⟩∧w.cell? ⟨b,off+i,none⟩=some v
theorem Slv.nil (w:World) (a:Option Addr):Slv w a []:=fun i x h=>by simp at h
theorem Slv.below {w w':World} {a:Option Addr} {vs:List Value} (h:Slv w a vs) (hb:Below w.heap.size w w'):Slv w' a vs:=by
 intro i x hx
 obtain ⟨b,off,rfl,hc⟩:=h i x hx
 exact ⟨b,off,rfl,cell_later hb hc⟩
def Ownv (w:World) (B:Nat) (e:TypeId) (v:Value) (vs:List Value):Prop:=w.ownsRow B e 1 v vs.length vs
theorem Ownv.nil (w:World) (B:Nat) (e:TypeId):Ownv w B e (.slice none 0 0) []:=World.ownsRow_nil w B e 1
theorem Ownv.form {w:World} {B:Nat} {e:TypeId} {v:Value} {vs:List Value} (h:Ownv w B e v vs) : ∃ a cap,v = .slice a vs.length cap∧Slv w a vs:=by
 rcases h.2 with ⟨rfl,hn⟩ | ⟨g,cap,cur,rfl,hb,hg,hnc,hcm,hcs,ht⟩
 · have hx:vs=[]:=List.eq_nil_of_length_eq_zero hn
   subst hx
   exact ⟨none,0,rfl,Slv.nil _ _⟩
 · refine ⟨_,cap,rfl,fun i x hx=>⟨g,0,rfl,?_⟩⟩
   have hi:i<vs.length:=(List.getElem?_eq_some_iff.1 hx).1
   have hcell:w.cell? ⟨g,i,none⟩=cur[i]? := by simp [World.cell?,hg]
   rw [Nat.zero_add,hcell]
   rw [←ht,List.getElem?_take,if_pos (by omega)] at hx
   simpa using hx
theorem Ownv.form1 {w:World} {B:Nat} {e:TypeId} {v:Value} {vs:List Value} (h:Ownv w B e v vs) (hn:0<vs.length) : ∃ g cap,v = .slice (some ⟨g,0,none⟩) vs.length cap∧Slv w (some ⟨g,0,none⟩) vs∧B≤g∧g<w.heap.size:=by
 obtain ⟨a,cap,he,hs⟩:=h.form
 rcases h.2 with ⟨_,hz⟩ | ⟨g,cap',cur,hv,hb,hg,_⟩
 · omega
 · rw [hv] at he
   injection he with h1 h2 h3
   exact ⟨g,cap',hv,by rw [h1];exact hs,hb,(Array.getElem?_eq_some_iff.1 hg).1⟩
theorem Slv.grown {w w':World} {g off:Nat} {vs:List Value} {row:Option Nat} (h:Slv w (some ⟨g,off,none⟩) vs) (hg:w.grownBy w' row) (hne:row ≠ some g):Slv w' (some ⟨g,off,none⟩) vs:=by
 intro i x hx
 obtain ⟨b,o,he,hc⟩:=h i x hx
 simp only [Option.some.injEq,Addr.mk.injEq,and_true] at he
 obtain ⟨rfl,rfl⟩:=he
 refine ⟨_,_,rfl,?_⟩
 have hlt:=World.block_lt_of_cell? w _ hc
 rw [World.cell?_of_block (hg.block _ hlt (fun e=>hne e.symm))];exact hc
theorem Ownv.sl {w:World} {B:Nat} {e:TypeId} {a:Option Addr} {n c:Nat} {vs:List Value} (h:Ownv w B e (.slice a n c) vs):Slv w a vs:=by
 obtain ⟨a',c',he,hs⟩:=h.form
 injection he with h1 h2 h3
 subst h1;exact hs
theorem Ownv.lt {w:World} {B:Nat} {e:TypeId} {v:Value} {vs:List Value} (h:Ownv w B e v vs) : ∀ g,v.ownBlock=some g→B≤g∧g<w.heap.size:=World.ownsRow.lt h
theorem Ownv.below {w w':World} {B:Nat} {e:TypeId} {v:Value} {vs:List Value} (h:Ownv w B e v vs) (hb:Below w.heap.size w w'):Ownv w' B e v vs :=
 World.ownsRow.kept (row:=none) h ⟨hb.os,hb.tape,hb.output,hb.size,fun i hi _=>hb.block i hi⟩ (by cases v.ownBlock <;> simp)
theorem Ownv.alloc {w:World} {B:Nat} {e:TypeId} {v:Value} {vs:List Value} (h:Ownv w B e v vs) (o:Obj):Ownv (w.alloc o) B e v vs:=World.ownsRow.alloc h o
theorem Ownv.base {w:World} {B B':Nat} {e:TypeId} {v:Value} {vs:List Value} (h:Ownv w B e v vs) (hB:B'≤B):Ownv w B' e v vs:=by
 refine ⟨h.1,h.2.imp id ?_⟩
 rintro ⟨g,cap,cur,h1,h2,h3⟩
 exact ⟨g,cap,cur,h1,Nat.le_trans hB h2,h3⟩
theorem Ownv.grown {w w':World} {B:Nat} {e:TypeId} {v:Value} {vs:List Value} (h:Ownv w B e v vs) {row:Option Nat} (hg:w.grownBy w' row) (hne:v.ownBlock=none∨v.ownBlock ≠ row):Ownv w' B e v vs:=World.ownsRow.kept h hg hne
theorem wpList_append_val {P:Program} {w:World} {ops:Array Oper} {rest:List Oper} {o:Oper} {a:Act} {Q:Exit→Act→World→Prop} (hgd:o.guard=none) (s x:Operand) (t:TypeId)
 (ho:o.op = .call { callee:=.builtin .append,args:=#[s,x],argTypes:=#[t,t] })
 (e:TypeId) (z:Value) (bytes:Nat) (hbz:bytes≤24) (ht:P.underlying t=some (.slice e))
 (hi:(P.info? e).map (fun i=>(i.zero,i.size,i.bytes))=some (some z,1,bytes)) (hzs:z.cells.size=1)
 (B:Nat) (v:Value) (vs:List Value) (hs:a.eval s=v) (hown:Ownv w B e v vs) (u:Value) (hu1:u.oneCell'=true)
 (ad:Addr) (c:Nat) (hx:a.eval x = .slice (some ad) 1 c) (hcell:w.cell? ad=some u) (hlen:vs.length≤1000000000) (hbase:B≤w.heap.size)
 (h : ∀ v' w',Ownv w' B e v' (vs++[u])→w.grownBy w' v.ownBlock→(v'.ownBlock=v.ownBlock∨v'.ownBlock=some w.heap.size)→wpList P ops Q rest (a.put o.dst v') w') :
 wpList P ops Q (o::rest) a w:=by
 obtain ⟨i0,hi0,hz0,hz1,hz2⟩:=info_parts hi
 refine wpList_plain hgd fun K hK=>?_
 have hnews : ∀ j u',[u][j]? = some u'→w.cell? (ad.add j)=some u':=by
  intro j u' hu
  match j with
  | 0=>simp at hu;subst hu;simpa [Addr.add] using hcell
  | j+1=>simp at hu
 obtain ⟨v',w',hr,h2,h3,_,h4⟩:=run_append_own_at (P:=P) w B t o.type e i0 z 1 bytes ht hi0 hz0 hz1 hz2 hzs (by omega) v vs.length _ hown ad 1 c [u] rfl hnews (by simpa using hu1)
  (by simp only [maxLen];omega) (by have:(vs.length+1) * bytes≤(vs.length+1) * 24:=Nat.mul_le_mul_left _ hbz;omega) hbase
 unfold Oper.wp execOp
 simp only [ho,resolve,invoke,builtin,Sem.run_bind,Sem.run_pure,Result.andThen_ok,List.map_toArray,List.map_cons,List.map_nil,hs,hx,hr]
 exact hK _ _ (h v' w' (by unfold Ownv;simpa using h2) h3 h4)
def strs (ls:List (List Int)):List Value:=ls.map fun l=>.string (strOfNums l)
theorem strs_length (ls:List (List Int)):(strs ls).length=ls.length:=by unfold strs;rw [List.length_map]
theorem strs_at {ls:List (List Int)} {i:Nat} {l:List Int} (h:ls[i]? = some l):(strs ls)[i]? = some (.string (strOfNums l)):=by unfold strs;rw [List.getElem?_map,h];rfl
theorem strs_snoc (ls:List (List Int)) (l:List Int):strs (ls++[l])=strs ls++[.string (strOfNums l)]:=by unfold strs;rw [List.map_append];rfl
def RowKeeps (w w':World) (v:Value) (n:Nat):Prop := ∀ g,v.ownBlock=some g → ∀ cur e,w.heap[g]? = some (.cells cur e (0,0)) → ∃ cur',w'.heap[g]? = some (.cells cur' e (0,0))∧cur'.size=cur.size∧cur'.toList.take n=cur.toList.take n
structure Added (w w':World) (v v':Value) (n:Nat):Prop where
 grown:w.grownBy w' v.ownBlock
 keeps:RowKeeps w w' v n
 where_:v'.ownBlock=v.ownBlock ∨ ∀ g,v'.ownBlock=some g→w.heap.size≤g
theorem Added.refl (w:World) (v:Value) (n:Nat):Added w w v v n:=⟨⟨rfl,rfl,rfl,Nat.le_refl _,fun _ _ _=>rfl⟩,fun _ _ cur _e h=>⟨cur,h,rfl,rfl⟩,.inl rfl⟩
theorem Added.below {w w1 w':World} {v v':Value} {n:Nat} (h:Added w w1 v v' n) (hb:Below w1.heap.size w1 w'):Added w w' v v' n:=by
 refine ⟨⟨hb.os.trans h.grown.os,hb.tape.trans h.grown.tape,hb.output.trans h.grown.output,Nat.le_trans h.grown.size hb.size,fun k hk hne=>(hb.block k (Nat.lt_of_lt_of_le hk h.grown.size)).trans (h.grown.block k hk hne)⟩,fun g hg cur e hc=>?_,h.where_⟩
 obtain ⟨cur',h1,h2,h3⟩:=h.keeps g hg cur e hc
 exact ⟨cur',(hb.block g (Array.getElem?_eq_some_iff.1 h1).1).trans h1,h2,h3⟩
theorem Added.after {w w1 w':World} {v v':Value} {n:Nat} (hb:Below w.heap.size w w1) (h:Added w1 w' v v' n) (hv : ∀ g,v.ownBlock=some g→g<w.heap.size):Added w w' v v' n:=by
 refine ⟨⟨h.grown.os.trans hb.os,h.grown.tape.trans hb.tape,h.grown.output.trans hb.output,Nat.le_trans hb.size h.grown.size,fun k hk hne=>(h.grown.block k (Nat.lt_of_lt_of_le hk hb.size) hne).trans (hb.block k hk)⟩,fun g hg cur e hc=>?_,?_⟩
 · exact h.keeps g hg cur e ((hb.block g (hv g hg)).trans hc)
 · rcases h.where_ with h1 | h1
   · exact .inl h1
   · exact .inr fun g hg=>Nat.le_trans hb.size (h1 g hg)
theorem Added.trans {w w1 w':World} {v v1 v':Value} {n m:Nat} (h:Added w w1 v v1 n) (h':Added w1 w' v1 v' m) (hnm:n≤m) (hlt : ∀ g,v.ownBlock=some g→g<w.heap.size):Added w w' v v' n:=by
 have hne : ∀ k,k<w.heap.size→some k ≠ v.ownBlock→some k ≠ v1.ownBlock:=fun k hk hne e=>by
  rcases h.where_ with h1 | h1
  · exact hne (by rw [←h1];exact e)
  · have:=h1 k e.symm;omega
 refine ⟨⟨h'.grown.os.trans h.grown.os,h'.grown.tape.trans h.grown.tape,h'.grown.output.trans h.grown.output,Nat.le_trans h.grown.size h'.grown.size,fun k hk hn=>(h'.grown.block k (Nat.lt_of_lt_of_le hk h.grown.size) (hne k hk hn)).trans (h.grown.block k hk hn)⟩,fun g hg cur e hc=>?_,?_⟩
 · obtain ⟨cur1,h1,h2,h3⟩:=h.keeps g hg cur e hc
   rcases h.where_ with he | he
   · obtain ⟨cur',h4,h5,h6⟩:=h'.keeps g (by rw [he];exact hg) cur1 e h1
     refine ⟨cur',h4,h5.trans h2,?_⟩
     have:cur'.toList.take n=cur1.toList.take n:=by
      have h7:=congrArg (List.take n) h6
      rwa [List.take_take,List.take_take,Nat.min_eq_left hnm] at h7
     exact this.trans h3
   · refine ⟨cur1,(h'.grown.block g (Array.getElem?_eq_some_iff.1 h1).1 fun e1=>?_).trans h1,h2,h3⟩
     have:=he g e1.symm
     have:=hlt g hg
     omega
 · rcases h'.where_ with he | he
   · rw [he];exact h.where_
   · exact .inr fun g hg=>Nat.le_trans h.grown.size (he g hg)
theorem Ownv.keep {w w':World} {v v' u:Value} {n B:Nat} {e:TypeId} {vs:List Value} (h:Added w w' v v' n) (hu:Ownv w B e u vs) (hn:vs.length≤n):Ownv w' B e u vs:=by
 by_cases hs:u.ownBlock=v.ownBlock
 · refine ⟨hu.1,?_⟩
   rcases hu.2 with h1 | ⟨g,cap,cur,rfl,hb,hg,hnc,hcm,hcs,ht⟩
   · exact .inl h1
   · obtain ⟨cur',h1,h2,h3⟩:=h.keeps g (by rw [←hs];rfl) cur e hg
     refine .inr ⟨g,cap,cur',rfl,hb,h1,hnc,hcm,h2.trans hcs,?_⟩
     rw [Nat.mul_one] at ht ⊢
     have h7:=congrArg (List.take vs.length) h3
     rw [List.take_take,List.take_take,Nat.min_eq_left hn] at h7
     exact h7.trans ht
 · exact Ownv.grown hu h.grown (.inr hs)
end Go.Proofs.Ytajhkncolbgkbaa
end
section
namespace Go.Proofs.Ytajhkncolbgkbaa
open Go.RowKit Go.Sort
open Oct
theorem strEq_iff (a b:ByteArray):(a.toList == b.toList)=true ↔ a=b:=by
 rw [beq_iff_eq]
 constructor
 · intro h
   rw [ByteArray.toList_eq,ByteArray.toList_eq] at h
   exact ByteArray.ext (Array.ext' h)
 · intro h;rw [h]
end Go.Proofs.Ytajhkncolbgkbaa
end
section
namespace Go.Proofs.Ytajhkncolbgkbaa
open Go.RowKit Go.Sort Go.Maps
def datOf (p:List Int):List Int:=if goodP p then dataP p else []
def unV (p:List Int):Value:=.tuple #[.int .i64 (numOf p:Nat),.string (strOfNums (datOf p)),.bool (decide (goodP p))]
theorem good_iff {p:List Int} (hl:p.length=128):goodP p ↔ (p=sealV (numP p) (dataP p)∨p=zerosP 128):=by
 have hd:((p.drop 4).take 116).length=116:=by simp [hl]
 unfold goodP sealV dataP
 constructor
 · rintro ⟨_,h | ⟨h1,h2,h3⟩⟩
   · exact .inr h
   · refine .inl ?_
     rw [if_pos ⟨by omega,by omega,hd⟩,Int.toNat_natCast];exact h3
 · rintro (h | h)
   · by_cases hc:1≤(numP p:Int)∧(numP p:Int)≤1073741824∧((p.drop 4).take 116).length=116
     · rw [if_pos hc,Int.toNat_natCast] at h
       exact ⟨hl,.inr ⟨by omega,by omega,h⟩⟩
     · rw [if_neg hc] at h;rw [h] at hl;cases hl
   · exact ⟨hl,.inl h⟩
theorem byts_sealV {n:Int} {d:List Int} (h:Byts d):Byts (sealV n d):=by
 unfold sealV;split
 · exact byts_seal h
 · intro x hx;cases hx
theorem byts_zeros (n:Nat):Byts (zerosP n):=fun x hx=>by
 rw [List.eq_of_mem_replicate hx];omega
theorem strNe {a b:ByteArray} (h : ¬a=b):(a.toList == b.toList)=false:=by
 cases hb:(a.toList == b.toList) with
 | true=>exact absurd ((strEq_iff a b).1 hb) h
 | false=>rfl
set_option maxRecDepth 100000 in
set_option maxHeartbeats 1000000 in
theorem unseal_any (p:List Int) (hb:Byts p) (hl:p.length≤10000) (w:World) :
 Calls Try.prog 8 #[.string (strOfNums p)] w fun e w'=>e = .returned (unV p)∧Below w.heap.size w w':=by
 have hsz:(strOfNums p).size=p.length:=strOfNums_size p
 by_cases h128:p.length=128
 · have x4:strOfNums (p.take 4)=(strOfNums p).extract 0 4:=(str_extract p 0 4).symm
   have x116:strOfNums (dataP p)=(strOfNums p).extract 4 120:=(str_extract p 4 120).symm
   have hnu:=Bx.mk fun W=>number_any (p.take 4) (fun x hx=>hb x (List.mem_of_mem_take hx)) (by simp;omega) W
   rw [numK_four (by omega)] at hnu
   have hbd:Byts (dataP p):=fun x hx=>hb x (List.mem_of_mem_drop (List.mem_of_mem_take hx))
   have hse:=Bx.mk fun W=>seal_any (numP p) (dataP p) hbd (by unfold dataP;simp;omega) W
   have hbl:Bx (∀ W,Calls Try.prog 32 #[.int .i64 128] W fun e w'=>e = .returned (.string (strOfNums (zerosP 128)))∧Below W.heap.size W w'):=⟨fun W=>blank_any 128 (by omega) W⟩
   rw [h128] at hsz
   have hgi:=good_iff h128
   have hi1:strOfNums p=strOfNums (sealV (numP p) (dataP p)) ↔ p=sealV (numP p) (dataP p):=⟨fun e=>strOfNums_inj hb (byts_sealV hbd) e,fun e=>congrArg _ e⟩
   have hi2:strOfNums p=strOfNums (zerosP 128) ↔ p=zerosP 128:=⟨fun e=>strOfNums_inj hb (byts_zeros 128) e,fun e=>congrArg _ e⟩
   rw [←hi1,←hi2] at hgi
   have hU:unV p = .tuple #[.int .i64 ((if goodP p then numP p else 0:Nat):Int),.string (if goodP p then strOfNums (dataP p) else ⟨#[]⟩),.bool (decide (goodP p))]:=by
    unfold unV numOf datOf
    by_cases hg:goodP p
    · rw [if_pos hg,if_pos hg,if_pos hg]
    · rw [if_neg hg,if_neg hg,if_neg hg];rfl
   rw [hU]
   have HG:=Bx.mk hgi
   clear hgi hi1 hi2 hU hbd hb
   generalize strOfNums (sealV (numP p) (dataP p))=Ss at *
   generalize strOfNums (zerosP 128)=Sz at *
   rw [x116] at hse ⊢
   rw [x4] at hnu
   clear x4 x116
   generalize hn:numP p=n at *
   clear hn
   obtain ⟨gd,hgd⟩ : ∃ b,b=decide (goodP p):=⟨_,rfl⟩
   have hgd2:goodP p ↔ gd=true:=by rw [hgd];simp
   have hU:(Value.tuple #[.int .i64 ((if goodP p then n else 0:Nat):Int),.string (if goodP p then (strOfNums p).extract 4 120 else ⟨#[]⟩),.bool (decide (goodP p))])=(if gd=true then .tuple #[.int .i64 (n:Int),.string ((strOfNums p).extract 4 120),.bool true] else .tuple #[.int .i64 0,.string ⟨#[]⟩,.bool false]):=by
    rw [←hgd]
    by_cases hg:goodP p
    · rw [if_pos hg,if_pos hg,if_pos (hgd2.1 hg),hgd2.1 hg]
    · rw [if_neg hg,if_neg hg,if_neg (fun h=>hg (hgd2.2 h)),show gd=false by simpa using fun h=>hg (hgd2.2 h)];rfl
   rw [hU]
   have hG2:gd=true ↔ (strOfNums p=Ss∨strOfNums p=Sz):=hgd2.symm.trans HG.out
   clear hU hgd hgd2 HG
   generalize strOfNums p=Sp at *
   have HG:=Bx.mk hG2
   clear hG2 h128 hl
   by_cases e1:Sp=Ss
   · have hg:gd=true:=HG.out.2 (.inl e1)
     have n1:(Sp.toList == Ss.toList)=true:=(strEq_iff _ _).2 e1
     rw [if_pos hg]
     clear hbl HG hg e1
     go_enter Try.func8,Try.ntmps8
     go_upto_region 3 with fail
     have q0:=Bx.mk fun dk osk=>Calls.regrown_of (hnu.out (grow (redrawn w dk) osk))
     refine wp_region_quiet_below (by kernel_rfl) (by kernel_rfl) ?_
     repeat (first
      | go_big_quiet_step (first | with_reducible exact q0.out _ _)
      | quiet_step (first | with_reducible exact q0.out _ _))
     refine wpQuiet_nil ?_
     rintro _ ⟨⟨dq,osq⟩,rfl⟩
     have HB1:=Bx.mk (below_regrown w dq osq)
     generalize grow (redrawn w dq) osq=w1 at *
     clear q0 hnu
     go_wp2_with fail
     refine (hse.out _).mono ?_
     rintro _ w2 ⟨rfl,hw2⟩
     have HB2:=Bx.mk (HB1.out.trans (hw2.mono HB1.out.size))
     clear hw2 hse
     go_wp2_with fail
     go_ret3
     exact ⟨rfl,HB2.out⟩
   · have n1:(Sp.toList == Ss.toList)=false:=strNe e1
     by_cases e2:Sp=Sz
     · have hg:gd=true:=HG.out.2 (.inr e2)
       have n2:(Sp.toList == Sz.toList)=true:=(strEq_iff _ _).2 e2
       rw [if_pos hg]
       clear HG hg e1 e2
       go_enter Try.func8,Try.ntmps8
       go_upto_region 3 with fail
       have q0:=Bx.mk fun dk osk=>Calls.regrown_of (hnu.out (grow (redrawn w dk) osk))
       refine wp_region_quiet_below (by kernel_rfl) (by kernel_rfl) ?_
       repeat (first
        | go_big_quiet_step (first | with_reducible exact q0.out _ _)
        | quiet_step (first | with_reducible exact q0.out _ _))
       refine wpQuiet_nil ?_
       rintro _ ⟨⟨dq,osq⟩,rfl⟩
       have HB1:=Bx.mk (below_regrown w dq osq)
       generalize grow (redrawn w dq) osq=w1 at *
       clear q0 hnu
       go_wp2_with fail
       refine (hse.out _).mono ?_
       rintro _ w2 ⟨rfl,hw2⟩
       have HB2:=Bx.mk (HB1.out.trans (hw2.mono HB1.out.size))
       clear hw2 hse
       go_wp2_with fail
       refine (hbl.out _).mono ?_
       rintro _ w3 ⟨rfl,hw3⟩
       have HB3:=Bx.mk (HB2.out.trans (hw3.mono HB2.out.size))
       clear hw3 hbl
       go_wp2_with fail
       go_ret3
       exact ⟨rfl,HB3.out⟩
     · have hg : ¬gd=true:=fun h=>by
        rcases HG.out.1 h with h | h
        · exact e1 h
        · exact e2 h
       have n2:(Sp.toList == Sz.toList)=false:=strNe e2
       rw [if_neg hg]
       clear HG hg e1 e2
       go_enter Try.func8,Try.ntmps8
       go_upto_region 3 with fail
       have q0:=Bx.mk fun dk osk=>Calls.regrown_of (hnu.out (grow (redrawn w dk) osk))
       refine wp_region_quiet_below (by kernel_rfl) (by kernel_rfl) ?_
       repeat (first
        | go_big_quiet_step (first | with_reducible exact q0.out _ _)
        | quiet_step (first | with_reducible exact q0.out _ _))
       refine wpQuiet_nil ?_
       rintro _ ⟨⟨dq,osq⟩,rfl⟩
       have HB1:=Bx.mk (below_regrown w dq osq)
       generalize grow (redrawn w dq) osq=w1 at *
       clear q0 hnu
       go_wp2_with fail
       refine (hse.out _).mono ?_
       rintro _ w2 ⟨rfl,hw2⟩
       have HB2:=Bx.mk (HB1.out.trans (hw2.mono HB1.out.size))
       clear hw2 hse
       go_wp2_with fail
       refine (hbl.out _).mono ?_
       rintro _ w3 ⟨rfl,hw3⟩
       have HB3:=Bx.mk (HB2.out.trans (hw3.mono HB2.out.size))
       clear hw3 hbl
       go_wp2_with fail
       go_ret3
       exact ⟨rfl,HB3.out⟩
 · have hg : ¬goodP p:=fun h=>h128 h.1
   have hU:unV p = .tuple #[.int .i64 0,.string ⟨#[]⟩,.bool false]:=by
    unfold unV numOf datOf
    rw [if_neg hg,if_neg hg,decide_eq_false hg];rfl
   rw [hU]
   generalize p.length=l at *
   have t2:((l:Int) != 128)=true:=by simp;omega
   have t2b:((l:Int) == 128)=false:=by simp;omega
   have t2d : ¬(l:Int)=128:=by omega
   generalize strOfNums p=Sp at *
   clear hU hg hb hl
   go_enter Try.func8,Try.ntmps8
   go_wp2_with fail
   go_ret3
   exact ⟨rfl,Below.refl _ _⟩
end Go.Proofs.Ytajhkncolbgkbaa
end
