/- Shf, Crp, Slp, Pgp, Node, Vox, Tree, Store, Store2, MakeN, Bit, Out, Inn, Sl: joined by program, for one claim. -/
import Derived.Shelf.Slices.In.SortNone
import Derived.Shelf.Strings.Builder1
import Derived.Shelf.Strings.Builder2
import Derived.Shelf.Strings.Trim
import Derived.Shelf.Small.Utf8
import Derived.Shelf.Small.Strs
import Derived.Shelf.Strings.BuilderF
import Derived.Shelf.Strings.BuilderK
import Derived.Shelf.Strings.Builder2Cap
import Derived.Shelf.Strings.Search1
import Derived.Shelf.Strings.Prefix
import Derived.Shelf.Unicode.Decode
import Derived.Shelf.Strings.Runes
import Derived.Shelf.Strings.AsciiSet
import Derived.Shelf.Bits.Mul64
import Derived.Shelf.Strings.Repeat
import Derived.Shelf.Unicode.DecodeSlow
import Derived.Shelf.Unicode.DecodeAny
import Derived.Shelf.Unicode.DecodeLast
import Derived.Shelf.Strings.BuilderCap
import Derived.Ground.Names2Prog
import Derived.Shelf.Slices.Clone
import Derived.Ground.SlgnProg
import Derived.Shelf.SlicesE.Clone
import Derived.Test.YtajhkncolbgkbaaDoorProg
import Derived.Test.YtajhkncolbgkbaaDoorM1
import Derived.Test.YtajhkncolbgkbaaDoorM3
import Derived.Maps.OwnSet
import Derived.Maps.Views
import Derived.DeepKeys4
import Derived.Laws.BytesArg
import Derived.Deep.Cut
import Derived.Maps.AppendAt
import Derived.Deep.RegionLaw
import Derived.Deep.RegionHeld3
import Derived.Deep.DrawnRows
import Derived.Deep.AppendLies
import Derived.Laws.BitsLemmas
import Derived.IntWalk
import Derived.WalkKit
import Derived.WalkLawsBesides
import Derived.WalkSpells
import Derived.Laws.StructEq
import Derived.ChangeKeysEq
import Derived.Deep.QuietTactic
import Derived.BigQuiet
set_option linter.unusedVariables false
set_option linter.unusedSimpArgs false
section
namespace Go.Proofs
open Go.Shelf
def Tryd.lays169_ren:Go.Shelf.Ren:=⟨fun | 169=>57 | n=>n,fun | 70=>106 | 9=>9 | 0=>0 | 72=>108 | 37=>75 | 127=>133 | 3=>3 | 5=>5 | n=>n,fun | n=>n⟩
theorem Tryd.lays169:Go.Proofs.Lays.n169 Tryd.prog Tryd.lays169_ren:={
 mixed:=by kernel_rfl
 f169:=Tryd.func57.trans (congrArg some (by kernel_rfl))
 t0:=Tryd.underlying0
 a0:=Tryd.isAgg0
 z0:=Tryd.sizeOf0
 v0:=Tryd.zeroValue0
 t3:=Tryd.underlying3
 a3:=Tryd.isAgg3
 z3:=Tryd.sizeOf3
 v3:=Tryd.zeroValue3
 t9:=Tryd.underlying9
 a9:=Tryd.isAgg9
 z9:=Tryd.sizeOf9
 v9:=Tryd.zeroValue9
 t37:=Tryd.underlying75
 a37:=Tryd.isAgg75
 z37:=Tryd.sizeOf75
 v37:=Tryd.zeroValue75
 t70:=Tryd.underlying106
 a70:=Tryd.isAgg106
 z70:=Tryd.sizeOf106
 v70:=Tryd.zeroValue106
 t72:=Tryd.underlying108
 a72:=Tryd.isAgg108
 z72:=Tryd.sizeOf108
 v72:=Tryd.zeroValue108
 t127:=Tryd.underlying133
 a127:=Tryd.isAgg133
 z127:=Tryd.sizeOf133
 v127:=Tryd.zeroValue133 }
theorem Tryd.Builder_Extra_169:Builder.Extra Tryd.prog Tryd.lays169_ren:={
 sizeBuilder:=by kernel_rfl
 liesBuilder:=by kernel_rfl
 t5:=Tryd.underlying5
 a5:=Tryd.isAgg5
 z5:=Tryd.sizeOf5
 v5:=Tryd.zeroValue5
 infoByte:=by kernel_rfl
 cellsByte:=by kernel_rfl
 sizeByte:=by kernel_rfl
 neB5:=by decide }
open Go.RowKit in
theorem Tryd.Builder_String_any (B b:Nat) (l:List UInt8) (w:World) (h:Lib.IsBuilder 108 5 B b (Lib.byteCells l) w) (hBw:B≤w.heap.size) :
 Calls Tryd.prog 57 #[.pointer (some ⟨b,0,none⟩)] w fun e w'=>e = .returned (.string ⟨l.toArray⟩)∧Below B w w':=Any.Builder_String_any Tryd.lays169 Tryd.Builder_Extra_169 B b l w h hBw
def Tryd.lays160_ren:Go.Shelf.Ren:=⟨fun | 160=>51 | 232=>74 | 231=>73 | 227=>75 | 234=>77 | 233=>76 | 236=>79 | 235=>78 | 228=>87 | 271=>90 | 151=>89 | 197=>88 | 120=>98 | 152=>97 | 260=>96 | 137=>100 | 119=>101 | 224=>102 | 225=>103 | 217=>104 | 266=>105 | n=>n,fun | 9=>9 | 4=>4 | 3=>3 | 5=>5 | 117=>129 | 116=>128 | 0=>0 | 124=>132 | 21=>21 | 105=>142 | 46=>125 | 119=>155 | 139=>158 | 138=>157 | n=>n,fun | 3=>0 | 4=>1 | n=>n⟩
theorem Tryd.lays160:Go.Proofs.Lays.n160 Tryd.prog Tryd.lays160_ren:={
 mixed:=by kernel_rfl
 f119:=Tryd.func101.trans (congrArg some (by kernel_rfl))
 f120:=Tryd.func98.trans (congrArg some (by kernel_rfl))
 f137:=Tryd.func100.trans (congrArg some (by kernel_rfl))
 f151:=Tryd.func89.trans (congrArg some (by kernel_rfl))
 f152:=Tryd.func97.trans (congrArg some (by kernel_rfl))
 f160:=Tryd.func51.trans (congrArg some (by kernel_rfl))
 f197:=Tryd.func88.trans (congrArg some (by kernel_rfl))
 f217:=Tryd.func104.trans (congrArg some (by kernel_rfl))
 f224:=Tryd.func102.trans (congrArg some (by kernel_rfl))
 f225:=Tryd.func103.trans (congrArg some (by kernel_rfl))
 f227:=Tryd.func75.trans (congrArg some (by kernel_rfl))
 f228:=Tryd.func87.trans (congrArg some (by kernel_rfl))
 f231:=Tryd.func73.trans (congrArg some (by kernel_rfl))
 f232:=Tryd.func74.trans (congrArg some (by kernel_rfl))
 f233:=Tryd.func76.trans (congrArg some (by kernel_rfl))
 f234:=Tryd.func77.trans (congrArg some (by kernel_rfl))
 f235:=Tryd.func78.trans (congrArg some (by kernel_rfl))
 f236:=Tryd.func79.trans (congrArg some (by kernel_rfl))
 f260:=Tryd.func96.trans (congrArg some (by kernel_rfl))
 f266:=Tryd.func105.trans (congrArg some (by kernel_rfl))
 f271:=Tryd.func90.trans (congrArg some (by kernel_rfl))
 t0:=Tryd.underlying0
 a0:=Tryd.isAgg0
 z0:=Tryd.sizeOf0
 v0:=Tryd.zeroValue0
 t3:=Tryd.underlying3
 a3:=Tryd.isAgg3
 z3:=Tryd.sizeOf3
 v3:=Tryd.zeroValue3
 t4:=Tryd.underlying4
 a4:=Tryd.isAgg4
 z4:=Tryd.sizeOf4
 v4:=Tryd.zeroValue4
 t5:=Tryd.underlying5
 a5:=Tryd.isAgg5
 z5:=Tryd.sizeOf5
 v5:=Tryd.zeroValue5
 t9:=Tryd.underlying9
 a9:=Tryd.isAgg9
 z9:=Tryd.sizeOf9
 v9:=Tryd.zeroValue9
 t21:=Tryd.underlying21
 a21:=Tryd.isAgg21
 z21:=Tryd.sizeOf21
 v21:=Tryd.zeroValue21
 t46:=Tryd.underlying125
 a46:=Tryd.isAgg125
 z46:=Tryd.sizeOf125
 v46:=Tryd.zeroValue125
 t105:=Tryd.underlying142
 a105:=Tryd.isAgg142
 z105:=Tryd.sizeOf142
 v105:=Tryd.zeroValue142
 t116:=Tryd.underlying128
 a116:=Tryd.isAgg128
 z116:=Tryd.sizeOf128
 t117:=Tryd.underlying129
 a117:=Tryd.isAgg129
 z117:=Tryd.sizeOf129
 v117:=Tryd.zeroValue129
 t119:=Tryd.underlying155
 a119:=Tryd.isAgg155
 z119:=Tryd.sizeOf155
 t124:=Tryd.underlying132
 a124:=Tryd.isAgg132
 z124:=Tryd.sizeOf132
 v124:=Tryd.zeroValue132
 t138:=Tryd.underlying157
 a138:=Tryd.isAgg157
 z138:=Tryd.sizeOf157
 v138:=Tryd.zeroValue157
 t139:=Tryd.underlying158
 a139:=Tryd.isAgg158
 z139:=Tryd.sizeOf158
 v139:=Tryd.zeroValue158
 g3:=by kernel_rfl
 g4:=by kernel_rfl }
open Go.RowKit in
theorem Tryd.strings_Trim_one (s:ByteArray) (c:UInt8) (hc:c.toNat<128) (w:World) (hs:s.size≤9223372036854775807) :
 Calls Tryd.prog 51 #[.string s,.string ⟨#[c]⟩] w fun e w'=>e = .returned (.string ⟨(Lib.trimB s.data.toList c).toArray⟩)∧(w'=w∨w'=w.drew):=Any.strings_Trim_one Tryd.lays160 s c hc w hs
def Tryd.lays105_ren:Go.Shelf.Ren:=⟨fun | 105=>62 | 212=>83 | 99=>84 | 165=>85 | 166=>55 | 170=>86 | 169=>57 | 263=>92 | 264=>93 | 206=>94 | 240=>80 | 241=>95 | 276=>91 | 277=>99 | n=>n,fun | 9=>9 | 3=>3 | 4=>4 | 20=>20 | 0=>0 | 46=>125 | 109=>136 | 5=>5 | 72=>108 | 76=>111 | 51=>147 | 146=>148 | 53=>150 | 148=>151 | 70=>106 | 37=>75 | 75=>110 | 127=>133 | 164=>145 | 80=>114 | n=>n,fun | n=>n⟩
theorem Tryd.lays105:Go.Proofs.Lays.n105 Tryd.prog Tryd.lays105_ren:={
 mixed:=by kernel_rfl
 f99:=Tryd.func84.trans (congrArg some (by kernel_rfl))
 f105:=Tryd.func62.trans (congrArg some (by kernel_rfl))
 f165:=Tryd.func85.trans (congrArg some (by kernel_rfl))
 f166:=Tryd.func55.trans (congrArg some (by kernel_rfl))
 f169:=Tryd.func57.trans (congrArg some (by kernel_rfl))
 f170:=Tryd.func86.trans (congrArg some (by kernel_rfl))
 f206:=Tryd.func94.trans (congrArg some (by kernel_rfl))
 f212:=Tryd.func83.trans (congrArg some (by kernel_rfl))
 f240:=Tryd.func80.trans (congrArg some (by kernel_rfl))
 f241:=Tryd.func95.trans (congrArg some (by kernel_rfl))
 f263:=Tryd.func92.trans (congrArg some (by kernel_rfl))
 f264:=Tryd.func93.trans (congrArg some (by kernel_rfl))
 f276:=Tryd.func91.trans (congrArg some (by kernel_rfl))
 f277:=Tryd.func99.trans (congrArg some (by kernel_rfl))
 t0:=Tryd.underlying0
 a0:=Tryd.isAgg0
 z0:=Tryd.sizeOf0
 v0:=Tryd.zeroValue0
 t3:=Tryd.underlying3
 a3:=Tryd.isAgg3
 z3:=Tryd.sizeOf3
 v3:=Tryd.zeroValue3
 t4:=Tryd.underlying4
 a4:=Tryd.isAgg4
 z4:=Tryd.sizeOf4
 v4:=Tryd.zeroValue4
 t5:=Tryd.underlying5
 a5:=Tryd.isAgg5
 z5:=Tryd.sizeOf5
 v5:=Tryd.zeroValue5
 t9:=Tryd.underlying9
 a9:=Tryd.isAgg9
 z9:=Tryd.sizeOf9
 v9:=Tryd.zeroValue9
 t20:=Tryd.underlying20
 a20:=Tryd.isAgg20
 z20:=Tryd.sizeOf20
 v20:=Tryd.zeroValue20
 t37:=Tryd.underlying75
 a37:=Tryd.isAgg75
 z37:=Tryd.sizeOf75
 v37:=Tryd.zeroValue75
 t46:=Tryd.underlying125
 a46:=Tryd.isAgg125
 z46:=Tryd.sizeOf125
 v46:=Tryd.zeroValue125
 t51:=Tryd.underlying147
 a51:=Tryd.isAgg147
 z51:=Tryd.sizeOf147
 v51:=Tryd.zeroValue147
 t53:=Tryd.underlying150
 a53:=Tryd.isAgg150
 z53:=Tryd.sizeOf150
 v53:=Tryd.zeroValue150
 t70:=Tryd.underlying106
 a70:=Tryd.isAgg106
 z70:=Tryd.sizeOf106
 v70:=Tryd.zeroValue106
 t72:=Tryd.underlying108
 a72:=Tryd.isAgg108
 z72:=Tryd.sizeOf108
 v72:=Tryd.zeroValue108
 t75:=Tryd.underlying110
 a75:=Tryd.isAgg110
 z75:=Tryd.sizeOf110
 v75:=Tryd.zeroValue110
 t76:=Tryd.underlying111
 a76:=Tryd.isAgg111
 z76:=Tryd.sizeOf111
 v76:=Tryd.zeroValue111
 t109:=Tryd.underlying136
 a109:=Tryd.isAgg136
 z109:=Tryd.sizeOf136
 v109:=Tryd.zeroValue136
 t127:=Tryd.underlying133
 a127:=Tryd.isAgg133
 z127:=Tryd.sizeOf133
 v127:=Tryd.zeroValue133
 t146:=Tryd.underlying148
 a146:=Tryd.isAgg148
 z146:=Tryd.sizeOf148
 v146:=Tryd.zeroValue148
 t148:=Tryd.underlying151
 a148:=Tryd.isAgg151
 z148:=Tryd.sizeOf151
 v148:=Tryd.zeroValue151
 t164:=Tryd.underlying145
 a164:=Tryd.isAgg145
 z164:=Tryd.sizeOf145
 v164:=Tryd.zeroValue145 }
theorem Tryd.Builder_Extra_105:Builder.Extra Tryd.prog Tryd.lays105_ren:={
 sizeBuilder:=by kernel_rfl
 liesBuilder:=by kernel_rfl
 t5:=Tryd.underlying5
 a5:=Tryd.isAgg5
 z5:=Tryd.sizeOf5
 v5:=Tryd.zeroValue5
 infoByte:=by kernel_rfl
 cellsByte:=by kernel_rfl
 sizeByte:=by kernel_rfl
 neB5:=by decide }
open Go.RowKit Go.Lib in
theorem Tryd.strings_Repeat_main (s:ByteArray) (c:Nat) (w:World) (hc2:2≤c) (hc:c≤9223372036854775807) (hlen:s.size * c≤140737488355328) (h0:0<s.size) :
 Calls Tryd.prog 62 #[.string s,.int .i64 c] w fun e w'=>e = .returned (.string ⟨(Lib.repeatL s.data.toList c).toArray⟩)∧Below w.heap.size w w':=Any.strings_Repeat_main Tryd.lays105 Tryd.Builder_Extra_105 s c w hc2 hc hlen h0
open Go.RowKit Go.Lib in
theorem Tryd.strings_Repeat_zero (s:ByteArray) (w:World) :
 Calls Tryd.prog 62 #[.string s,.int .i64 0] w fun e w'=>e = .returned (.string ⟨#[]⟩)∧w'=w:=Any.strings_Repeat_zero Tryd.lays105 s w
open Go.RowKit Go.Lib in
theorem Tryd.strings_Repeat_one (s:ByteArray) (w:World) :
 Calls Tryd.prog 62 #[.string s,.int .i64 1] w fun e w'=>e = .returned (.string s)∧w'=w:=Any.strings_Repeat_one Tryd.lays105 s w
def Tryd.laysNm216_ren:Go.Shelf.Ren:=⟨fun | 16=>35 | n=>n,fun | 24=>30 | 9=>9 | 4=>4 | n=>n,fun | n=>n⟩
theorem Tryd.laysNm216:Go.Proofs.Lays2.n16 Tryd.prog Tryd.laysNm216_ren:={
 mixed:=by kernel_rfl
 f16:=Tryd.func35.trans (congrArg some (by kernel_rfl))
 t4:=Tryd.underlying4
 a4:=Tryd.isAgg4
 z4:=Tryd.sizeOf4
 v4:=Tryd.zeroValue4
 t9:=Tryd.underlying9
 a9:=Tryd.isAgg9
 z9:=Tryd.sizeOf9
 v9:=Tryd.zeroValue9
 t24:=Tryd.underlying30
 a24:=Tryd.isAgg30
 z24:=Tryd.sizeOf30
 v24:=Tryd.zeroValue30
 i9:=by kernel_rfl }
open Go.RowKit Go.Lib in
theorem Tryd.slices_Clone_string (b off n c:Nat) (zs:List ByteArray) (w:World) (hz:n≤zs.length) (hbig:n * 16≤140737488355328) (hc : ∀ j,j<zs.length→w.cell? ⟨b,off+j,none⟩=some (.string (zs.getD j ByteArray.empty))) :
 Calls Tryd.prog 35 #[.slice (some ⟨b,off,none⟩) n c] w fun e w' => ∃ v',e = .returned v'∧w'.ownsRow w.heap.size 9 1 v' n ((zs.take n).map (Value.string))∧v' ≠ .slice none 0 0∧Below w.heap.size w w':=Any.slices_Clone_string Tryd.laysNm216 b off n c zs w hz hbig hc
open Go.RowKit Go.Lib in
theorem Tryd.slices_Clone_string_nil (n c:Nat) (w:World) :
 Calls Tryd.prog 35 #[.slice none n c] w fun e w'=>e = .returned (.slice none 0 0)∧w'=w:=Any.slices_Clone_string_nil Tryd.laysNm216 n c w
open Go.RowKit Go.Lib in
theorem Tryd.slices_Clone_string_zero (a:Addr) (c:Nat) (w:World) :
 Calls Tryd.prog 35 #[.slice (some a) 0 c] w fun e w' => ∃ v',e = .returned v'∧w'.ownsRow w.heap.size 9 1 v' 0 []∧v' ≠ .slice none 0 0∧Below w.heap.size w w':=Any.slices_Clone_string_zero Tryd.laysNm216 a c w
end Go.Proofs
end
section
namespace Go.Proofs.YtajhkncolbgkbaaDoor
def crcP:Nat:=3988292384
def crcS (c:Nat):Nat:=if c % 2=1 then (c / 2) ^^^ crcP else c / 2
def crcR:Nat→Nat→Nat
 | 0,c=>c
 | k+1,c=>crcR k (crcS c)
def crcB (c:Nat) (x:Int):Nat:=crcR 8 (c ^^^ x.toNat)
def crcT (l:List Int) (c:Nat):Nat:=l.foldl crcB c
def crcV (l:List Int):Nat:=crcT l 4294967295 ^^^ 4294967295
theorem crcS_lt {c:Nat} (h:c<2 ^ 32):crcS c<2 ^ 32:=by
 unfold crcS
 split
 · exact Nat.xor_lt_two_pow (by omega) (by decide)
 · omega
theorem crcR_lt : ∀ (k:Nat) {c:Nat},c<2 ^ 32→crcR k c<2 ^ 32
 | 0,_,h=>h
 | k+1,_,h=>crcR_lt k (crcS_lt h)
def Byts (l:List Int):Prop := ∀ x∈l,0≤x∧x≤255
theorem crcB_lt {c:Nat} (h:c<2 ^ 32) {x:Int} (hx:0≤x∧x≤255):crcB c x<2 ^ 32:=crcR_lt 8 (Nat.xor_lt_two_pow h (by omega))
theorem crcT_lt : ∀ {l:List Int},Byts l → ∀ {c:Nat},c<2 ^ 32→crcT l c<2 ^ 32
 | [],_,_,h=>h
 | x :: l, hl, _, h => by
   unfold crcT
   rw [List.foldl_cons]
   exact crcT_lt (l:=l) (fun y hy=>hl y (by simp [hy])) (crcB_lt h (hl x (by simp)))
theorem crcT_app (l m:List Int) (c:Nat):crcT (l++m) c=crcT m (crcT l c):=List.foldl_append ..
end Go.Proofs.YtajhkncolbgkbaaDoor
end
section
namespace Go.Proofs.YtajhkncolbgkbaaDoor
def fourP (n:Nat):List Int:=[((n % 256:Nat):Int),((n / 256 % 256:Nat):Int),((n / 65536 % 256:Nat):Int),((n / 16777216 % 256:Nat):Int)]
theorem four_len (n:Nat):(fourP n).length=4:=rfl
theorem byts_four (n:Nat):Byts (fourP n):=by
 intro x hx
 simp only [fourP,List.mem_cons,List.not_mem_nil,or_false] at hx
 rcases hx with rfl | rfl | rfl | rfl <;> omega
def numP (l:List Int):Nat:=(l.getD 0 0).toNat+256 * (l.getD 1 0).toNat+65536 * (l.getD 2 0).toNat+16777216 * (l.getD 3 0).toNat
theorem num_four {n:Nat} (h:n<2 ^ 32) (r:List Int):numP (fourP n++r)=n:=by
 simp only [numP,fourP,List.cons_append,List.nil_append,List.getD_cons_zero,List.getD_cons_succ]
 omega
theorem num_lt {l:List Int} (hb:Byts l):numP l<2 ^ 32:=by
 have key : ∀ i,0≤l.getD i 0∧l.getD i 0≤255:=fun i=>by
  rw [List.getD_eq_getElem?_getD]
  cases h:l[i]? with
  | none=>simp
  | some x=>exact hb x (List.mem_of_getElem? h)
 have h0:=key 0
 have h1:=key 1
 have h2:=key 2
 have h3:=key 3
 unfold numP
 omega
def sealP (n:Nat) (data:List Int):List Int:=fourP n++data++fourP (crcV (fourP n++data))++fourP n
def zerosP (n:Nat):List Int:=List.replicate n 0
def goodP (l:List Int):Prop:=l.length=128∧(l=zerosP 128∨(1≤numP l∧numP l≤2 ^ 30∧l=sealP (numP l) ((l.drop 4).take 116)))
theorem seal_len {n:Nat} {data:List Int} (h:data.length=116):(sealP n data).length=128:=by simp [sealP,four_len,h]
theorem seal_num {n:Nat} (hn:n<2 ^ 32) (data:List Int):numP (sealP n data)=n:=by
 unfold sealP
 rw [List.append_assoc,List.append_assoc]
 exact num_four hn _
theorem seal_data {n:Nat} {data:List Int} (h:data.length=116):((sealP n data).drop 4).take 116=data:=by
 unfold sealP
 rw [List.append_assoc,List.append_assoc,List.drop_append_of_le_length (by simp [four_len]),List.drop_of_length_le (by simp [four_len]),List.nil_append,List.take_append_of_le_length (by omega),List.take_of_length_le (by omega)]
theorem seal_good {n:Nat} (h1:1≤n) (h2:n≤2 ^ 30) {data:List Int} (h:data.length=116):goodP (sealP n data):=by
 refine ⟨seal_len h,.inr ?_⟩
 rw [seal_num (by omega),seal_data h]
 exact ⟨h1,h2,rfl⟩
theorem byts_seal {n:Nat} {data:List Int} (h:Byts data):Byts (sealP n data):=by
 intro x hx
 simp only [sealP,List.mem_append] at hx
 rcases hx with ((hx | hx) | hx) | hx
 · exact byts_four _ x hx
 · exact h x hx
 · exact byts_four _ x hx
 · exact byts_four _ x hx
end Go.Proofs.YtajhkncolbgkbaaDoor
end
section
namespace Go.Proofs.YtajhkncolbgkbaaDoor
instance (l:List Int):Decidable (goodP l):=by unfold goodP;infer_instance
def numOf (l:List Int):Nat:=if goodP l then numP l else 0
def dataP (l:List Int):List Int:=(l.drop 4).take 116
inductive DOp where
 | w (page:Nat) (s:List Int)
 | f
def Dk.op (d:Dk):DOp→Dk × Int
 | .w i s=>d.write i 0 s
 | .f=>d.flush
def Dk.run (d:Dk):List DOp→Dk × Int
 | []=>(d,0)
 | o::l=>if (d.op o).2=0 then (d.op o).1.run l else d.op o
def recP (l:List Nat):List Int:=(((l.length % 256:Nat):Int)::l.flatMap fun x=>[((x % 256:Nat):Int),((x / 256 % 256:Nat):Int)])++zerosP (115 - 2 * l.length)
theorem rec_len {l:List Nat} (h:l.length≤57):(recP l).length=116:=by
 have : ∀ l:List Nat,(l.flatMap fun x=>[((x % 256:Nat):Int),((x / 256 % 256:Nat):Int)]).length=2 * l.length:=by
  intro l
  induction l with
  | nil=>rfl
  | cons x l ih=>rw [List.flatMap_cons,List.length_append,ih,List.length_cons];simp only [List.length_cons,List.length_nil];omega
 unfold recP zerosP
 rw [List.length_append,List.length_cons,this,List.length_replicate]
 omega
theorem rec_byts (l:List Nat):Byts (recP l):=by
 intro x hx
 simp only [recP,zerosP,List.cons_append,List.mem_cons,List.mem_append,List.mem_flatMap,List.mem_replicate] at hx
 rcases hx with rfl | ⟨y,_,rfl | rfl | h⟩ | ⟨_,rfl⟩
 · omega
 · omega
 · omega
 · cases h
 · omega
def word2 (data:List Int) (j:Nat):Nat:=(data.getD (1+2 * j) 0).toNat+256 * (data.getD (2+2 * j) 0).toNat
theorem rec_word {l:List Nat} (hl : ∀ x∈l,x<65536) {j:Nat} {x:Nat} (h:l[j]? = some x):word2 (recP l) j=x:=by
 have key : ∀ (l:List Nat) (r:List Int) (j x:Nat),(∀ x∈l,x<65536)→l[j]? = some x→((l.flatMap fun x=>[((x % 256:Nat):Int),((x / 256 % 256:Nat):Int)])++r).getD (2 * j) 0=((x % 256:Nat):Int)∧((l.flatMap fun x=>[((x % 256:Nat):Int),((x / 256 % 256:Nat):Int)])++r).getD (2 * j+1) 0=((x / 256 % 256:Nat):Int):=by
  intro l
  induction l with
  | nil=>intro r j x _ h;simp at h
  | cons y l ih =>
    intro r j x hl h
    cases j with
    | zero =>
      obtain rfl:y=x:=by simpa using h
      exact ⟨rfl,rfl⟩
    | succ j =>
      have:=ih r j x (fun z hz=>hl z (List.mem_cons_of_mem _ hz)) (by simpa using h)
      rw [List.flatMap_cons,show 2 * (j+1)=2 * j+1+1 by omega]
      simp only [List.cons_append,List.nil_append,List.getD_cons_succ]
      exact this
 have hx:=hl x (List.mem_of_getElem? h)
 obtain ⟨h1,h2⟩:=key l (zerosP (115 - 2 * l.length)) j x hl h
 unfold word2 recP
 rw [show 1+2 * j=2 * j+1 by omega,show 2+2 * j=2 * j+1+1 by omega]
 simp only [List.cons_append,List.getD_cons_succ]
 rw [h1,h2]
 omega
def tgGo (image:List (List Int)) (t:Nat) (data:List Int):Nat→Option (List Nat)
 | 0=>some []
 | j + 1 => match tgGo image t data j with
   | none=>none
   | some l=>if goodP (image.getD (1+j) [])∧numP (image.getD (1+j) [])=t∧word2 data j+17<image.length∧(0<j→l.getD (j - 1) 0<word2 data j) then some (l++[word2 data j]) else none
def logK (image:List (List Int)):Nat:=if goodP (image.getD 0 []) then ((dataP (image.getD 0 [])).getD 0 0).toNat else 0
def targetsP (image:List (List Int)):List Nat :=
 if numOf (image.getD 0 [])=0∨logK image<1∨16<logK image then [] else match tgGo image (numOf (image.getD 0 [])) (dataP (image.getD 0 [])) (logK image) with
 | none=>[]
 | some l=>if recP l=dataP (image.getD 0 []) then l else []
theorem tg_len {image:List (List Int)} {t:Nat} {data:List Int} : ∀ {k:Nat} {l:List Nat},tgGo image t data k=some l→l.length=k
 | 0,l,h=>by simp only [tgGo,Option.some.injEq] at h;subst h;rfl
 | k + 1, l, h => by
   unfold tgGo at h
   cases h1:tgGo image t data k with
   | none=>rw [h1] at h;cases h
   | some m =>
     rw [h1] at h
     simp only at h
     split at h
     · simp only [Option.some.injEq] at h;subst h
       rw [List.length_append,tg_len h1];rfl
     · cases h
theorem tg_some {image:List (List Int)} {t:Nat} {data:List Int} {l:List Nat} (hw : ∀ j x,l[j]? = some x→word2 data j=x) (hg : ∀ j,j<l.length→goodP (image.getD (1+j) [])∧numP (image.getD (1+j) [])=t) (hi : ∀ x∈l,x+17<image.length) (hs:l.Pairwise (· < ·)) : ∀ k,k≤l.length→tgGo image t data k=some (l.take k)
 | 0,_=>rfl
 | k + 1, hk => by
   have h1:=tg_some hw hg hi hs k (by omega)
   have hkl:k<l.length:=by omega
   have hx:=hw k l[k] (List.getElem?_eq_getElem hkl)
   unfold tgGo
   rw [h1]
   simp only
   have hlt:0<k→(l.take k).getD (k - 1) 0<word2 data k:=fun h0=>by
    rw [hx,List.getD_eq_getElem?_getD,List.getElem?_take,if_pos (by omega),List.getElem?_eq_getElem (by omega)]
    exact List.pairwise_iff_getElem.1 hs (k - 1) k (by omega) hkl (by omega)
   rw [if_pos ⟨(hg k hkl).1,(hg k hkl).2,by rw [hx];exact hi _ (List.getElem_mem hkl),hlt⟩,hx,List.take_succ_eq_append_getElem hkl]
def replayP (image:List (List Int)):List DOp:=((targetsP image).mapIdx fun j x=>DOp.w (17+x) (image.getD (1+j) []))++(if targetsP image=[] then [] else [.f])
def stepsP (t:Nat) (l:List (Nat × List Int)):List DOp :=
 (l.mapIdx fun j x=>DOp.w (1+j) (sealP t x.2))++DOp.w 0 (sealP t (recP (l.map (·.1)))) :: .f::(l.map fun x=>DOp.w (17+x.1) (sealP t x.2))++[.f]
structure Pgs where
 d:Dk
 number:Nat
 bad:List Nat
 closed:Bool
def Pgs.check (s:Pgs) (l:List (Int × List Int)):Int :=
 if s.closed=true then 20
 else if 16<l.length∨1073741824≤s.number then 2
 else if l=[] then 1
 else if (∀ x∈l,0≤x.1∧x.1+17<s.d.p.length∧x.2.length=116)∧(l.map (·.1)).Pairwise (· < ·) then 0 else 1
end Go.Proofs.YtajhkncolbgkbaaDoor
end
section
namespace Go.Proofs.YtajhkncolbgkbaaDoor
open Go.RowKit Go.Maps
theorem strCells : Tryd.prog.cellsOf 9=1:=by kernel_rfl
end Go.Proofs.YtajhkncolbgkbaaDoor
end
section
namespace Go.Proofs.YtajhkncolbgkbaaDoor
structure Pt where
 x:Int
 y:Int
 z:Int
deriving DecidableEq
structure Box where
 lo:Pt
 hi:Pt
deriving DecidableEq
def Pt.zero:Pt:=⟨0,0,0⟩
def Box.zero:Box:=⟨Pt.zero,Pt.zero⟩
def Pt.add (p q:Pt):Pt:=⟨p.x+q.x,p.y+q.y,p.z+q.z⟩
def Pt.sub (p q:Pt):Pt:=⟨p.x - q.x,p.y - q.y,p.z - q.z⟩
def inB (p:Pt) (b:Box):Bool:=decide (b.lo.x≤p.x∧p.x<b.hi.x∧b.lo.y≤p.y∧p.y<b.hi.y∧b.lo.z≤p.z∧p.z<b.hi.z)
def emptyB (b:Box):Bool := !inB b.lo b
def sizeB (b:Box):Pt:=if emptyB b=true then Pt.zero else b.hi.sub b.lo
def volB (b:Box):Int:=(sizeB b).x * (sizeB b).y * (sizeB b).z
def indexB (b:Box) (p:Pt):Int:=if inB p b=true then ((p.z - b.lo.z) * (sizeB b).y+(p.y - b.lo.y)) * (sizeB b).x+(p.x - b.lo.x) else -1
def atB (b:Box) (i:Int):Pt:=if 0≤i∧i<volB b then ⟨b.lo.x+i % (sizeB b).x,b.lo.y+i / (sizeB b).x % (sizeB b).y,b.lo.z+i / (sizeB b).x / (sizeB b).y⟩ else Pt.zero
structure Small (b:Box) (m:Int):Prop where
 lx : -m≤b.lo.x
 ly : -m≤b.lo.y
 lz : -m≤b.lo.z
 hx:b.hi.x≤m
 hy:b.hi.y≤m
 hz:b.hi.z≤m
theorem inB_iff {p:Pt} {b:Box}:inB p b=true ↔ b.lo.x≤p.x∧p.x<b.hi.x∧b.lo.y≤p.y∧p.y<b.hi.y∧b.lo.z≤p.z∧p.z<b.hi.z:=by simp [inB]
theorem emptyB_iff {b:Box}:emptyB b=false ↔ b.lo.x<b.hi.x∧b.lo.y<b.hi.y∧b.lo.z<b.hi.z:=by simp [emptyB,inB]
theorem sizeB_full {b:Box} (h:emptyB b=false):sizeB b=b.hi.sub b.lo:=by simp [sizeB,h]
theorem in_not_empty {p:Pt} {b:Box} (h:inB p b=true):emptyB b=false:=by
 have:=inB_iff.1 h
 rw [emptyB_iff];omega
theorem indexB_bd {p:Pt} {b:Box} (h:inB p b=true):0≤indexB b p∧indexB b p<volB b:=by
 have he:=in_not_empty h
 have h':=inB_iff.1 h
 unfold indexB volB
 rw [if_pos h,sizeB_full he]
 simp only [Pt.sub]
 generalize hx:p.x - b.lo.x=dx
 generalize hy:p.y - b.lo.y=dy
 generalize hz:p.z - b.lo.z=dz
 generalize hsx:b.hi.x - b.lo.x=sx
 generalize hsy:b.hi.y - b.lo.y=sy
 generalize hsz:b.hi.z - b.lo.z=sz
 have a1:0≤dx:=by omega
 have a2:dx+1≤sx:=by omega
 have a3:0≤dy:=by omega
 have a4:dy+1≤sy:=by omega
 have a5:0≤dz:=by omega
 have a6:dz+1≤sz:=by omega
 have b1:0≤dz * sy:=Int.mul_nonneg a5 (by omega)
 have b2:dz * sy+sy≤sz * sy:=by
  have:=Int.mul_le_mul_of_nonneg_right a6 (show 0≤sy by omega)
  rw [Int.add_mul,Int.one_mul] at this;exact this
 have b3:0≤(dz * sy+dy) * sx:=Int.mul_nonneg (by omega) (by omega)
 have b4:(dz * sy+dy+1) * sx≤sz * sy * sx:=Int.mul_le_mul_of_nonneg_right (by omega) (by omega)
 rw [Int.add_mul,Int.one_mul] at b4
 have b5:sx * sy * sz=sz * sy * sx:=by rw [Int.mul_comm sx sy,Int.mul_comm (sy * sx) sz,Int.mul_assoc]
 omega
end Go.Proofs.YtajhkncolbgkbaaDoor
end
section
namespace Go.Proofs.YtajhkncolbgkbaaDoor
namespace Oct
inductive Tr where
 | uni (c:Int)
 | brick (l:List Int)
 | node (d:Nat) (ch:Fin 8→Tr)
namespace Tr
open Classical in
noncomputable def mkInner (d:Nat) (ch:Fin 8→Tr):Tr:=if (∃ c,ch 0 = .uni c) ∧ ∀ i,ch i=ch 0 then ch 0 else .node d ch
def mkBrick (l:List Int):Tr:=if ∀ x∈l,x=l.headD 0 then .uni (l.headD 0) else .brick l
def cor (a:Pt) (n:Nat) (i:Nat):Pt:=⟨a.x+(i % 2:Nat) * 2 ^ (n+2),a.y+(i / 2 % 2:Nat) * 2 ^ (n+2),a.z+(i / 4:Nat) * 2 ^ (n+2)⟩
def cellAt (a:Pt) (k:Nat):Pt:=⟨a.x+(k % 4:Nat),a.y+(k / 4 % 4:Nat),a.z+(k / 16:Nat)⟩
def cells:Tr→List Int
 | .uni c=>List.replicate 64 c
 | .brick l=>l
 | .node _ _=>[]
noncomputable def can (f:Pt→Int):Nat→Pt→Tr
 | 0,a=>mkBrick ((List.range 64).map fun k=>f (cellAt a k))
 | n+1,a=>mkInner (n+3) fun i=>can f n (cor a n i.val)
theorem getD_el {l:List Int} {i:Nat} (h:i<l.length):l.getD i 0=l[i]:=by simp [List.getD,h]
def upd (f:Pt→Int) (p:Pt) (c:Int):Pt→Int:=fun q=>if q=p then c else f q
open Classical in
noncomputable def add:Tr→List Tr→List Tr
 | .node d ch,ts=>if .node d ch∈ts then ts else (List.finRange 8).foldl (fun a i=>add (ch i) a) ts++[.node d ch]
 | .uni c,ts=>if .uni c∈ts then ts else ts++[.uni c]
 | .brick l,ts=>if .brick l∈ts then ts else ts++[.brick l]
noncomputable def addK (ch:Fin 8→Tr) (k:Nat) (ts:List Tr):List Tr:=((List.finRange 8).take k).foldl (fun a i=>add (ch i) a) ts
theorem addK_zero (ch:Fin 8→Tr) (ts:List Tr):addK ch 0 ts=ts:=rfl
theorem addK_succ (ch:Fin 8→Tr) {k:Nat} (hk:k<8) (ts:List Tr):addK ch (k+1) ts=add (ch ⟨k,hk⟩) (addK ch k ts):=by
 unfold addK
 rw [List.take_succ_eq_append_getElem (by simpa using hk),List.foldl_append]
 simp
theorem addK_all (ch:Fin 8→Tr) (ts:List Tr):addK ch 8 ts=(List.finRange 8).foldl (fun a i=>add (ch i) a) ts:=by
 unfold addK;rw [List.take_of_length_le (by simp)]
open Classical in
theorem add_node (d:Nat) (ch:Fin 8→Tr) (ts:List Tr):add (.node d ch) ts=if .node d ch∈ts then ts else addK ch 8 ts++[.node d ch]:=by
 rw [addK_all,add]
open Classical in
noncomputable def ins (t:Tr) (ts:List Tr):List Tr:=if t∈ts then ts else ts++[t]
theorem add_uni (c:Int) (ts:List Tr):add (.uni c) ts=ins (.uni c) ts:=by rw [add,ins]
theorem add_brick (l:List Int) (ts:List Tr):add (.brick l) ts=ins (.brick l) ts:=by rw [add,ins]
def Closed (ts:List Tr):Prop:=ts.Nodup ∧ ∀ d ch,Tr.node d ch∈ts → ∀ i,ch i∈ts
theorem Closed.nil:Closed []:=⟨by simp,fun d ch h=>by simp at h⟩
theorem addK_ind {P:List Tr→Prop} {ch:Fin 8→Tr} (ih : ∀ i ts,P ts→P (add (ch i) ts)) : ∀ k,k≤8 → ∀ ts,P ts→P (addK ch k ts)
 | 0,_,ts,h=>by rw [addK_zero];exact h
 | k+1,hk,ts,h=>by rw [addK_succ ch (by omega)];exact ih _ _ (addK_ind ih k (by omega) ts h)
theorem ins_of_mem {t:Tr} {ts:List Tr} (h:t∈ts):ins t ts=ts:=if_pos h
theorem ins_of_not {t:Tr} {ts:List Tr} (h:t ∉ ts):ins t ts=ts++[t]:=if_neg h
theorem ins_prefix (t:Tr) (ts:List Tr):ts <+: ins t ts:=by
 by_cases h:t∈ts
 · rw [ins_of_mem h];exact List.prefix_refl _
 · rw [ins_of_not h];exact List.prefix_append _ _
theorem mem_ins (t:Tr) (ts:List Tr):t∈ins t ts:=by
 by_cases h:t∈ts
 · rw [ins_of_mem h];exact h
 · rw [ins_of_not h];simp
theorem add_prefix : ∀ (t:Tr) (ts:List Tr),ts <+: add t ts:=by
 intro t
 induction t with
 | uni c=>intro ts;rw [add_uni];exact ins_prefix _ _
 | brick l=>intro ts;rw [add_brick];exact ins_prefix _ _
 | node d ch ih =>
   intro ts
   rw [add_node]
   split
   · exact List.prefix_refl _
   · exact (addK_ind (P:=fun a=>ts <+: a) (fun i a h=>h.trans (ih i a)) 8 (Nat.le_refl _) ts (List.prefix_refl _)).trans (List.prefix_append _ _)
theorem mem_add (t:Tr) (ts:List Tr):t∈add t ts:=by
 cases t with
 | uni c=>rw [add_uni];exact mem_ins _ _
 | brick l=>rw [add_brick];exact mem_ins _ _
 | node d ch =>
   rw [add_node]
   split
   · assumption
   · simp
theorem add_same : ∀ (t:Tr) (ts:List Tr),t∈ts→add t ts=ts:=by
 intro t ts h
 cases t with
 | uni c=>rw [add_uni,ins_of_mem h]
 | brick l=>rw [add_brick,ins_of_mem h]
 | node d ch=>rw [add_node,if_pos h]
theorem addK_mem (ch:Fin 8→Tr) (ts:List Tr) : ∀ k,k≤8 → ∀ i:Fin 8,i.val<k→ch i∈addK ch k ts
 | 0,_,i,h=>by omega
 | k + 1, hk, i, h => by
   rw [addK_succ ch (by omega)]
   by_cases e:i.val=k
   · rw [show i=⟨k,by omega⟩ from Fin.ext e]
     exact mem_add _ _
   · exact (add_prefix _ _).subset (addK_mem ch ts k (by omega) i (by omega))
def sz:Tr→Nat
 | .uni _=>1
 | .brick _=>1
 | .node _ ch=>1+(List.ofFn fun i=>sz (ch i)).sum
theorem le_sum {l:List Nat} {x:Nat} (h:x∈l):x≤l.sum:=by
 induction l with
 | nil=>simp at h
 | cons y l ih =>
   simp only [List.sum_cons]
   rcases List.mem_cons.1 h with rfl | h
   · omega
   · have:=ih h;omega
theorem sz_kid (d:Nat) (ch:Fin 8→Tr) (i:Fin 8):sz (ch i)<sz (.node d ch):=by
 have:sz (ch i)≤(List.ofFn fun i=>sz (ch i)).sum:=le_sum (List.mem_ofFn.2 ⟨i,rfl⟩)
 simp only [sz];omega
theorem of_mem_ins {x t:Tr} {ts:List Tr} (h:x∈ins t ts):x∈ts∨x=t:=by
 by_cases h':t∈ts
 · rw [ins_of_mem h'] at h;exact .inl h
 · rw [ins_of_not h'] at h;simpa using h
theorem of_mem_add : ∀ (t:Tr) (ts:List Tr) (x:Tr),x∈add t ts→x∈ts∨x=t∨sz x<sz t:=by
 intro t
 induction t with
 | uni c=>intro ts x h;rw [add_uni] at h;rcases of_mem_ins h with h | h;exact .inl h;exact .inr (.inl h)
 | brick l=>intro ts x h;rw [add_brick] at h;rcases of_mem_ins h with h | h;exact .inl h;exact .inr (.inl h)
 | node d ch ih =>
   intro ts x h
   rw [add_node] at h
   split at h
   · exact .inl h
   · rcases List.mem_append.1 h with h | h
     · have:=addK_ind (P:=fun a => ∀ x∈a,x∈ts∨sz x<sz (.node d ch)) (fun i a ha x hx=>by
        rcases ih i a x hx with h | rfl | h
        · exact ha x h
        · exact .inr (sz_kid d ch i)
        · exact .inr (Nat.lt_trans h (sz_kid d ch i))) 8 (Nat.le_refl _) ts (fun x hx=>.inl hx) x h
       rcases this with h | h
       · exact .inl h
       · exact .inr (.inr h)
     · simp at h;exact .inr (.inl h)
theorem not_mem_kids {d:Nat} {ch:Fin 8→Tr} {ts:List Tr} (h : .node d ch ∉ ts) (k:Nat) (hk:k≤8) : .node d ch ∉ addK ch k ts:=by
 have:=addK_ind (P:=fun a=>Tr.node d ch ∉ a) (ch:=ch) (fun i a ha hx=>by
  rcases of_mem_add _ _ _ hx with h | h | h
  · exact ha h
  · have:=sz_kid d ch i;rw [←h] at this;omega
  · have:=sz_kid d ch i;omega) k hk ts h
 exact this
theorem Closed.ins {t:Tr} {ts:List Tr} (h:Closed ts) (hk : ∀ d ch,t = .node d ch → ∀ i,ch i∈ts):Closed (ins t ts):=by
 by_cases hm:t∈ts
 · rw [ins_of_mem hm];exact h
 · rw [ins_of_not hm]
   refine ⟨?_,fun d ch hc i=>?_⟩
   · rw [List.nodup_append]
     exact ⟨h.1,by simp,fun a ha b hb=>by simp at hb;subst hb;rintro rfl;exact hm ha⟩
   · rcases List.mem_append.1 hc with hc | hc
     · exact List.mem_append.2 (.inl (h.2 d ch hc i))
     · simp at hc;exact List.mem_append.2 (.inl (hk d ch hc.symm i))
theorem node_add {d:Nat} {ch:Fin 8→Tr} {ts:List Tr} (h:Closed ts):add (.node d ch) ts=Tr.ins (.node d ch) (addK ch 8 ts):=by
 rw [add_node]
 split
 · rename_i hm
   have:addK ch 8 ts=ts:=addK_ind (P:=fun a=>a=ts) (fun i a ha=>by subst ha;exact add_same _ _ (h.2 d ch hm i)) 8 (Nat.le_refl _) ts rfl
   rw [this,ins_of_mem hm]
 · rename_i hm
   rw [ins_of_not (not_mem_kids hm 8 (Nat.le_refl _))]
theorem Closed.add : ∀ (t:Tr) {ts:List Tr},Closed ts→Closed (add t ts):=by
 intro t
 induction t with
 | uni c=>intro ts h;rw [add_uni];exact h.ins (fun d ch e=>by cases e)
 | brick l=>intro ts h;rw [add_brick];exact h.ins (fun d ch e=>by cases e)
 | node d ch ih =>
   intro ts h
   rw [node_add h]
   exact (addK_ind (P:=Closed) (fun i a ha=>ih i ha) 8 (Nat.le_refl _) ts h).ins (fun d' ch' e i=>by
    injection e with e1 e2
    subst e2
    exact addK_mem _ ts 8 (Nat.le_refl _) i i.isLt)
theorem Closed.addK {ch:Fin 8→Tr} {ts:List Tr} (h:Closed ts) (k:Nat) (hk:k≤8):Closed (addK ch k ts):=addK_ind (P:=Closed) (fun _i _a ha=>Closed.add _ ha) k hk ts h
open Classical in
theorem inner_add {d:Nat} {ch:Fin 8→Tr} {ts:List Tr} (h:Closed ts) :
 add (mkInner d ch) ts=if mkInner d ch=ch 0∧(∃ c,ch 0 = .uni c) then addK ch 8 ts else Tr.ins (.node d ch) (addK ch 8 ts):=by
 unfold mkInner
 split
 · rename_i hc
   obtain ⟨⟨c,hc⟩,hall⟩:=hc
   rw [if_pos ⟨rfl,c,hc⟩]
   have : ∀ k,k≤7→Tr.addK ch (k+1) ts=Tr.add (ch 0) ts:=by
    intro k
    induction k with
    | zero=>intro _;rw [addK_succ ch (by omega),addK_zero];rfl
    | succ k ih =>
      intro hk
      rw [addK_succ ch (by omega),ih (by omega),hall ⟨k+1,by omega⟩]
      exact add_same _ _ (mem_add _ _)
   exact (this 7 (Nat.le_refl _)).symm
 · rename_i hc
   rw [if_neg,node_add h]
   rintro ⟨e1,c,e2⟩
   rw [e2] at e1;cases e1
def enc:Tr→List Int
 | .uni c=>[117,c]
 | .brick l=>98::l
 | .node d ch=>110::(d:Int)::(List.ofFn fun i=>enc (ch i)).flatten
def WF:Tr→Prop
 | .uni c=>0≤c∧c≤255
 | .brick l=>l.length=64 ∧ ∀ x∈l,0≤x∧x≤255
 | .node d ch=>d≤255 ∧ ∀ i,WF (ch i)
end Tr
end Oct
end Go.Proofs.YtajhkncolbgkbaaDoor
end
section
namespace Go.Proofs.YtajhkncolbgkbaaDoor
open Go.RowKit Go.Sort Go.Maps
open Oct
def Leans (ts:List Tr) (t:Tr):Prop := ∀ d ch,t = .node d ch → ∀ i,ch i∈ts
structure Bytes (t:Tr):Prop where
 bricks : ∀ l,t = .brick l→l.length=64 ∧ ∀ x∈l,0≤x∧x≤255
 unis : ∀ c,t = .uni c→0≤c∧c≤255
 nodes : ∀ d ch,t = .node d ch→d≤255
theorem Bytes.uni {c:Int} (h:0≤c∧c≤255):Bytes (.uni c):=⟨fun l e=>(by cases e),fun c' e=>(by injection e with e;exact e ▸ h),fun d ch e=>(by cases e)⟩
theorem Bytes.brick {l:List Int} (h:l.length=64 ∧ ∀ x∈l,0≤x∧x≤255):Bytes (.brick l):=⟨fun l' e=>(by injection e with e;exact e ▸ h),fun c e=>(by cases e),fun d ch e=>(by cases e)⟩
theorem Bytes.node {d:Nat} (h:d≤255) (ch:Fin 8→Tr):Bytes (.node d ch):=⟨fun l e=>(by cases e),fun c e=>(by cases e),fun d' ch' e=>(by injection e with e _;exact e ▸ h)⟩
theorem strOfNums_inj : ∀ {l l':List Int},(∀ x∈l,0≤x∧x≤255)→(∀ x∈l',0≤x∧x≤255)→strOfNums l=strOfNums l'→l=l':=by
 intro l l' h h' e
 have e1:l.map (fun n=>UInt8.ofNat n.toNat)=l'.map (fun n=>UInt8.ofNat n.toNat):=by
  rw [←strOfNums_data,←strOfNums_data,e]
 clear e
 induction l generalizing l' with
 | nil => cases l' with
   | nil=>rfl
   | cons y r=>simp at e1
 | cons x l ih => cases l' with
   | nil=>simp at e1
   | cons y r =>
     simp only [List.map_cons,List.cons.injEq] at e1
     have hx:=h x (by simp)
     have hy:=h' y (by simp)
     have e2:=congrArg UInt8.toNat e1.1
     simp only [UInt8.toNat_ofNat'] at e2
     have:x=y:=by omega
     rw [this,ih (fun z hz=>h z (by simp [hz])) (fun z hz=>h' z (by simp [hz])) e1.2]
end Go.Proofs.YtajhkncolbgkbaaDoor
end
section
namespace Go.Proofs.YtajhkncolbgkbaaDoor
open Go.RowKit Go.Sort Go.Maps
open Oct
structure Good (ts:List Tr):Prop where
 closed:Tr.Closed ts
 bytes : ∀ t∈ts,Bytes t
theorem Good.leans {ts:List Tr} (h:Good ts) {t:Tr} (ht:t∈ts):Leans ts t:=fun d ch e i=>h.closed.2 d ch (e ▸ ht) i
theorem Leans.later {ts ts':List Tr} (hp:ts <+: ts') {t:Tr} (h:Leans ts t):Leans ts' t:=fun d ch e i=>hp.subset (h d ch e i)
theorem Good.add {ts:List Tr} (hG:Good ts) {t:Tr} (ht:t ∉ ts) (hl:Leans ts t) (hb:Bytes t):Good (ts++[t]):=by
 refine ⟨⟨?_,fun d ch h i=>?_⟩,fun x h=>?_⟩
 · rw [List.nodup_append]
   exact ⟨hG.closed.1,by simp,fun a ha b hb' e=>by rw [List.mem_singleton.1 hb'] at e;exact ht (e ▸ ha)⟩
 · rcases List.mem_append.1 h with h | h
   · exact List.mem_append_left _ (hG.closed.2 d ch h i)
   · exact List.mem_append_left _ (hl d ch (List.mem_singleton.1 h).symm i)
 · rcases List.mem_append.1 h with h | h
   · exact hG.bytes _ h
   · rw [List.mem_singleton.1 h];exact hb
theorem grown_of_below {w w':World} (hb:Below w.heap.size w w'):w.grownBy w' none:=⟨hb.os,hb.tape,hb.output,hb.size,fun k hk _=>hb.block k hk⟩
structure Keeps (Far:Nat→Prop) (w w':World):Prop where
 os:w'.os=w.os
 tape:w'.tape=w.tape
 output:w'.output=w.output
 size:w.heap.size≤w'.heap.size
 block : ∀ k,Far k→k<w.heap.size→w'.heap[k]? = w.heap[k]?
theorem Keeps.refl (Far:Nat→Prop) (w:World):Keeps Far w w:=⟨rfl,rfl,rfl,Nat.le_refl _,fun _ _ _=>rfl⟩
theorem Keeps.trans {Far:Nat→Prop} {a b c:World} (h:Keeps Far a b) (h':Keeps Far b c):Keeps Far a c :=
 ⟨h'.os.trans h.os,h'.tape.trans h.tape,h'.output.trans h.output,Nat.le_trans h.size h'.size,fun k hk hl=>(h'.block k hk (Nat.lt_of_lt_of_le hl h.size)).trans (h.block k hk hl)⟩
theorem Keeps.below {Far:Nat→Prop} {a b:World} (h:Below a.heap.size a b):Keeps Far a b:=⟨h.os,h.tape,h.output,h.size,fun k _ hl=>h.block k hl⟩
theorem Keeps.grown {Far:Nat→Prop} {a b:World} {row:Option Nat} (h:a.grownBy b row) (hr : ∀ g,row=some g → ¬Far g):Keeps Far a b :=
 ⟨h.os,h.tape,h.output,h.size,fun k hk hl=>h.block k hl (fun e=>hr k e.symm hk)⟩
theorem Bk.far {w w':World} {Far:Nat→Prop} {b:Nat} {vs:Array Value} {t:TypeId} (h:Bk w b vs t) (hk:Keeps Far w w') (hf:Far b):Bk w' b vs t:=(hk.block b hf h.lt).trans h
end Go.Proofs.YtajhkncolbgkbaaDoor
end
section
namespace Go.Proofs.YtajhkncolbgkbaaDoor
open Go.RowKit Go.Sort Go.Maps
open Oct
attribute [local go_sem ↓] Go.wp_at_zero Go.wp_at_succ
theorem Keeps.set {Far:Nat→Prop} {a b:World} (h:Keeps Far a b) (p:Addr) (v:Value) (hp : ¬Far p.block):Keeps Far a (b.setCell p v) :=
 h.trans ⟨rfl,rfl,rfl,by simp [World.setCell],fun k hk _=>heap_setCell_other b p k v (fun e=>hp (e ▸ hk))⟩
theorem grown_setCell (w:World) (p:Addr) (v:Value):w.grownBy (w.setCell p v) (some p.block) :=
 ⟨rfl,rfl,rfl,by simp [World.setCell],fun k _ hne=>heap_setCell_other w p k v (fun e=>hne (by rw [e]))⟩
end Go.Proofs.YtajhkncolbgkbaaDoor
end
section
namespace Go.Proofs.YtajhkncolbgkbaaDoor
open Go.RowKit
theorem wraps_i64 : ∀ n:Int,0≤n→n<2 ^ 62→IntKind.i64.wrap n=n:=fun n h0 h1=>by
 have:(2:Int) ^ 62=4611686018427387904:=by decide
 rw [IntKind.wrap_i64];omega
end Go.Proofs.YtajhkncolbgkbaaDoor
end
section
namespace Go.Proofs.YtajhkncolbgkbaaDoor
open Go.RowKit Go.Sort Go.Maps
open Oct
theorem Good.ins {ts:List Tr} (hG:Good ts) {t:Tr} (hl:Leans ts t) (hb:Bytes t):Good (Tr.ins t ts):=by
 by_cases h:t∈ts
 · rw [Tr.ins_of_mem h];exact hG
 · rw [Tr.ins_of_not h];exact hG.add h hl hb
theorem Good.uni {ts:List Tr} (hG:Good ts) {c:Int} (hc:0≤c∧c≤255):Good (Tr.add (.uni c) ts):=by
 rw [Tr.add_uni];exact hG.ins (fun d ch h=>by cases h) (Bytes.uni hc)
end Go.Proofs.YtajhkncolbgkbaaDoor
end
section
namespace Go.Proofs.YtajhkncolbgkbaaDoor
open Go.RowKit Go.Sort Go.Maps
open Oct
theorem addK_same {ch:Fin 8→Tr} {ts:List Tr} (h : ∀ i,ch i∈ts):Tr.addK ch 8 ts=ts:=Tr.addK_ind (P:=fun a=>a=ts) (fun i a ha=>by subst ha;exact Tr.add_same _ _ (h i)) 8 (Nat.le_refl _) ts rfl
theorem Good.inner {ts:List Tr} (hG:Good ts) {ch:Fin 8→Tr} (hch : ∀ i,ch i∈ts) {d:Nat} (hd:d≤255):Good (Tr.add (Tr.mkInner d ch) ts):=by
 rw [Tr.inner_add hG.closed,addK_same hch]
 split
 · exact hG
 · exact hG.ins (fun d' ch' h i=>by injection h with h1 h2;subst h2;exact hch i) (Bytes.node hd ch)
end Go.Proofs.YtajhkncolbgkbaaDoor
end
section
namespace Go.Proofs.YtajhkncolbgkbaaDoor
open Go.RowKit
namespace Pal
def cell (c:Int):Bool:=decide (0≤c) && decide (c≤255)
def brick (l:List Int):Bool:=decide (l.length=64) && l.all cell
end Pal
end Go.Proofs.YtajhkncolbgkbaaDoor
end
