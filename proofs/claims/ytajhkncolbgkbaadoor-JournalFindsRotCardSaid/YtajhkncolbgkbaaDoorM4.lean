/- Shf, Crp, Slp, Pgp, Node, Vox: joined by program, for one claim. -/
import Derived.Shelf.Slices.In.SortNone
import Derived.Shelf.Strings.Builder1
import Derived.Shelf.Strings.Builder2
import Derived.Shelf.Strings.Trim
import Derived.Shelf.Small.Utf8
import Derived.Shelf.Small.Strs
import Derived.Shelf.Strings.BuilderF
import Derived.Shelf.Strings.BuilderK
import Derived.Shelf.Strings.Builder2Cap
import Derived.Shelf.Strings.Search1
import Derived.Shelf.Strings.Prefix
import Derived.Shelf.Unicode.Decode
import Derived.Shelf.Strings.Runes
import Derived.Shelf.Strings.AsciiSet
import Derived.Shelf.Bits.Mul64
import Derived.Shelf.Strings.Repeat
import Derived.Shelf.Unicode.DecodeSlow
import Derived.Shelf.Unicode.DecodeAny
import Derived.Shelf.Unicode.DecodeLast
import Derived.Shelf.Strings.BuilderCap
import Derived.Ground.Names2Prog
import Derived.Shelf.Slices.Clone
import Derived.Ground.SlgnProg
import Derived.Shelf.SlicesE.Clone
import Derived.Test.YtajhkncolbgkbaaDoorProg
import Derived.Test.YtajhkncolbgkbaaDoorM1
import Derived.Test.YtajhkncolbgkbaaDoorM3
import Derived.Maps.OwnSet
import Derived.Maps.Views
import Derived.DeepKeys4
import Derived.Laws.BytesArg
set_option linter.unusedVariables false
set_option linter.unusedSimpArgs false
section
namespace Go.Proofs
open Go.Shelf
def Tryd.lays169_ren:Go.Shelf.Ren:=⟨fun | 169=>57 | n=>n,fun | 70=>106 | 9=>9 | 0=>0 | 72=>108 | 37=>75 | 127=>133 | 3=>3 | 5=>5 | n=>n,fun | n=>n⟩
theorem Tryd.lays169:Go.Proofs.Lays.n169 Tryd.prog Tryd.lays169_ren:={
 mixed:=by kernel_rfl
 f169:=Tryd.func57.trans (congrArg some (by kernel_rfl))
 t0:=Tryd.underlying0
 a0:=Tryd.isAgg0
 z0:=Tryd.sizeOf0
 v0:=Tryd.zeroValue0
 t3:=Tryd.underlying3
 a3:=Tryd.isAgg3
 z3:=Tryd.sizeOf3
 v3:=Tryd.zeroValue3
 t9:=Tryd.underlying9
 a9:=Tryd.isAgg9
 z9:=Tryd.sizeOf9
 v9:=Tryd.zeroValue9
 t37:=Tryd.underlying75
 a37:=Tryd.isAgg75
 z37:=Tryd.sizeOf75
 v37:=Tryd.zeroValue75
 t70:=Tryd.underlying106
 a70:=Tryd.isAgg106
 z70:=Tryd.sizeOf106
 v70:=Tryd.zeroValue106
 t72:=Tryd.underlying108
 a72:=Tryd.isAgg108
 z72:=Tryd.sizeOf108
 v72:=Tryd.zeroValue108
 t127:=Tryd.underlying133
 a127:=Tryd.isAgg133
 z127:=Tryd.sizeOf133
 v127:=Tryd.zeroValue133 }
theorem Tryd.Builder_Extra_169:Builder.Extra Tryd.prog Tryd.lays169_ren:={
 sizeBuilder:=by kernel_rfl
 liesBuilder:=by kernel_rfl
 t5:=Tryd.underlying5
 a5:=Tryd.isAgg5
 z5:=Tryd.sizeOf5
 v5:=Tryd.zeroValue5
 infoByte:=by kernel_rfl
 cellsByte:=by kernel_rfl
 sizeByte:=by kernel_rfl
 neB5:=by decide }
open Go.RowKit in
theorem Tryd.Builder_String_any (B b:Nat) (l:List UInt8) (w:World) (h:Lib.IsBuilder 108 5 B b (Lib.byteCells l) w) (hBw:B≤w.heap.size) :
 Calls Tryd.prog 57 #[.pointer (some ⟨b,0,none⟩)] w fun e w'=>e = .returned (.string ⟨l.toArray⟩)∧Below B w w':=Any.Builder_String_any Tryd.lays169 Tryd.Builder_Extra_169 B b l w h hBw
def Tryd.lays160_ren:Go.Shelf.Ren:=⟨fun | 160=>51 | 232=>74 | 231=>73 | 227=>75 | 234=>77 | 233=>76 | 236=>79 | 235=>78 | 228=>87 | 271=>90 | 151=>89 | 197=>88 | 120=>98 | 152=>97 | 260=>96 | 137=>100 | 119=>101 | 224=>102 | 225=>103 | 217=>104 | 266=>105 | n=>n,fun | 9=>9 | 4=>4 | 3=>3 | 5=>5 | 117=>129 | 116=>128 | 0=>0 | 124=>132 | 21=>21 | 105=>142 | 46=>125 | 119=>155 | 139=>158 | 138=>157 | n=>n,fun | 3=>0 | 4=>1 | n=>n⟩
theorem Tryd.lays160:Go.Proofs.Lays.n160 Tryd.prog Tryd.lays160_ren:={
 mixed:=by kernel_rfl
 f119:=Tryd.func101.trans (congrArg some (by kernel_rfl))
 f120:=Tryd.func98.trans (congrArg some (by kernel_rfl))
 f137:=Tryd.func100.trans (congrArg some (by kernel_rfl))
 f151:=Tryd.func89.trans (congrArg some (by kernel_rfl))
 f152:=Tryd.func97.trans (congrArg some (by kernel_rfl))
 f160:=Tryd.func51.trans (congrArg some (by kernel_rfl))
 f197:=Tryd.func88.trans (congrArg some (by kernel_rfl))
 f217:=Tryd.func104.trans (congrArg some (by kernel_rfl))
 f224:=Tryd.func102.trans (congrArg some (by kernel_rfl))
 f225:=Tryd.func103.trans (congrArg some (by kernel_rfl))
 f227:=Tryd.func75.trans (congrArg some (by kernel_rfl))
 f228:=Tryd.func87.trans (congrArg some (by kernel_rfl))
 f231:=Tryd.func73.trans (congrArg some (by kernel_rfl))
 f232:=Tryd.func74.trans (congrArg some (by kernel_rfl))
 f233:=Tryd.func76.trans (congrArg some (by kernel_rfl))
 f234:=Tryd.func77.trans (congrArg some (by kernel_rfl))
 f235:=Tryd.func78.trans (congrArg some (by kernel_rfl))
 f236:=Tryd.func79.trans (congrArg some (by kernel_rfl))
 f260:=Tryd.func96.trans (congrArg some (by kernel_rfl))
 f266:=Tryd.func105.trans (congrArg some (by kernel_rfl))
 f271:=Tryd.func90.trans (congrArg some (by kernel_rfl))
 t0:=Tryd.underlying0
 a0:=Tryd.isAgg0
 z0:=Tryd.sizeOf0
 v0:=Tryd.zeroValue0
 t3:=Tryd.underlying3
 a3:=Tryd.isAgg3
 z3:=Tryd.sizeOf3
 v3:=Tryd.zeroValue3
 t4:=Tryd.underlying4
 a4:=Tryd.isAgg4
 z4:=Tryd.sizeOf4
 v4:=Tryd.zeroValue4
 t5:=Tryd.underlying5
 a5:=Tryd.isAgg5
 z5:=Tryd.sizeOf5
 v5:=Tryd.zeroValue5
 t9:=Tryd.underlying9
 a9:=Tryd.isAgg9
 z9:=Tryd.sizeOf9
 v9:=Tryd.zeroValue9
 t21:=Tryd.underlying21
 a21:=Tryd.isAgg21
 z21:=Tryd.sizeOf21
 v21:=Tryd.zeroValue21
 t46:=Tryd.underlying125
 a46:=Tryd.isAgg125
 z46:=Tryd.sizeOf125
 v46:=Tryd.zeroValue125
 t105:=Tryd.underlying142
 a105:=Tryd.isAgg142
 z105:=Tryd.sizeOf142
 v105:=Tryd.zeroValue142
 t116:=Tryd.underlying128
 a116:=Tryd.isAgg128
 z116:=Tryd.sizeOf128
 t117:=Tryd.underlying129
 a117:=Tryd.isAgg129
 z117:=Tryd.sizeOf129
 v117:=Tryd.zeroValue129
 t119:=Tryd.underlying155
 a119:=Tryd.isAgg155
 z119:=Tryd.sizeOf155
 t124:=Tryd.underlying132
 a124:=Tryd.isAgg132
 z124:=Tryd.sizeOf132
 v124:=Tryd.zeroValue132
 t138:=Tryd.underlying157
 a138:=Tryd.isAgg157
 z138:=Tryd.sizeOf157
 v138:=Tryd.zeroValue157
 t139:=Tryd.underlying158
 a139:=Tryd.isAgg158
 z139:=Tryd.sizeOf158
 v139:=Tryd.zeroValue158
 g3:=by kernel_rfl
 g4:=by kernel_rfl }
open Go.RowKit in
theorem Tryd.strings_Trim_one (s:ByteArray) (c:UInt8) (hc:c.toNat<128) (w:World) (hs:s.size≤9223372036854775807) :
 Calls Tryd.prog 51 #[.string s,.string ⟨#[c]⟩] w fun e w'=>e = .returned (.string ⟨(Lib.trimB s.data.toList c).toArray⟩)∧(w'=w∨w'=w.drew):=Any.strings_Trim_one Tryd.lays160 s c hc w hs
def Tryd.lays105_ren:Go.Shelf.Ren:=⟨fun | 105=>62 | 212=>83 | 99=>84 | 165=>85 | 166=>55 | 170=>86 | 169=>57 | 263=>92 | 264=>93 | 206=>94 | 240=>80 | 241=>95 | 276=>91 | 277=>99 | n=>n,fun | 9=>9 | 3=>3 | 4=>4 | 20=>20 | 0=>0 | 46=>125 | 109=>136 | 5=>5 | 72=>108 | 76=>111 | 51=>147 | 146=>148 | 53=>150 | 148=>151 | 70=>106 | 37=>75 | 75=>110 | 127=>133 | 164=>145 | 80=>114 | n=>n,fun | n=>n⟩
theorem Tryd.lays105:Go.Proofs.Lays.n105 Tryd.prog Tryd.lays105_ren:={
 mixed:=by kernel_rfl
 f99:=Tryd.func84.trans (congrArg some (by kernel_rfl))
 f105:=Tryd.func62.trans (congrArg some (by kernel_rfl))
 f165:=Tryd.func85.trans (congrArg some (by kernel_rfl))
 f166:=Tryd.func55.trans (congrArg some (by kernel_rfl))
 f169:=Tryd.func57.trans (congrArg some (by kernel_rfl))
 f170:=Tryd.func86.trans (congrArg some (by kernel_rfl))
 f206:=Tryd.func94.trans (congrArg some (by kernel_rfl))
 f212:=Tryd.func83.trans (congrArg some (by kernel_rfl))
 f240:=Tryd.func80.trans (congrArg some (by kernel_rfl))
 f241:=Tryd.func95.trans (congrArg some (by kernel_rfl))
 f263:=Tryd.func92.trans (congrArg some (by kernel_rfl))
 f264:=Tryd.func93.trans (congrArg some (by kernel_rfl))
 f276:=Tryd.func91.trans (congrArg some (by kernel_rfl))
 f277:=Tryd.func99.trans (congrArg some (by kernel_rfl))
 t0:=Tryd.underlying0
 a0:=Tryd.isAgg0
 z0:=Tryd.sizeOf0
 v0:=Tryd.zeroValue0
 t3:=Tryd.underlying3
 a3:=Tryd.isAgg3
 z3:=Tryd.sizeOf3
 v3:=Tryd.zeroValue3
 t4:=Tryd.underlying4
 a4:=Tryd.isAgg4
 z4:=Tryd.sizeOf4
 v4:=Tryd.zeroValue4
 t5:=Tryd.underlying5
 a5:=Tryd.isAgg5
 z5:=Tryd.sizeOf5
 v5:=Tryd.zeroValue5
 t9:=Tryd.underlying9
 a9:=Tryd.isAgg9
 z9:=Tryd.sizeOf9
 v9:=Tryd.zeroValue9
 t20:=Tryd.underlying20
 a20:=Tryd.isAgg20
 z20:=Tryd.sizeOf20
 v20:=Tryd.zeroValue20
 t37:=Tryd.underlying75
 a37:=Tryd.isAgg75
 z37:=Tryd.sizeOf75
 v37:=Tryd.zeroValue75
 t46:=Tryd.underlying125
 a46:=Tryd.isAgg125
 z46:=Tryd.sizeOf125
 v46:=Tryd.zeroValue125
 t51:=Tryd.underlying147
 a51:=Tryd.isAgg147
 z51:=Tryd.sizeOf147
 v51:=Tryd.zeroValue147
 t53:=Tryd.underlying150
 a53:=Tryd.isAgg150
 z53:=Tryd.sizeOf150
 v53:=Tryd.zeroValue150
 t70:=Tryd.underlying106
 a70:=Tryd.isAgg106
 z70:=Tryd.sizeOf106
 v70:=Tryd.zeroValue106
 t72:=Tryd.underlying108
 a72:=Tryd.isAgg108
 z72:=Tryd.sizeOf108
 v72:=Tryd.zeroValue108
 t75:=Tryd.underlying110
 a75:=Tryd.isAgg110
 z75:=Tryd.sizeOf110
 v75:=Tryd.zeroValue110
 t76:=Tryd.underlying111
 a76:=Tryd.isAgg111
 z76:=Tryd.sizeOf111
 v76:=Tryd.zeroValue111
 t109:=Tryd.underlying136
 a109:=Tryd.isAgg136
 z109:=Tryd.sizeOf136
 v109:=Tryd.zeroValue136
 t127:=Tryd.underlying133
 a127:=Tryd.isAgg133
 z127:=Tryd.sizeOf133
 v127:=Tryd.zeroValue133
 t146:=Tryd.underlying148
 a146:=Tryd.isAgg148
 z146:=Tryd.sizeOf148
 v146:=Tryd.zeroValue148
 t148:=Tryd.underlying151
 a148:=Tryd.isAgg151
 z148:=Tryd.sizeOf151
 v148:=Tryd.zeroValue151
 t164:=Tryd.underlying145
 a164:=Tryd.isAgg145
 z164:=Tryd.sizeOf145
 v164:=Tryd.zeroValue145 }
theorem Tryd.Builder_Extra_105:Builder.Extra Tryd.prog Tryd.lays105_ren:={
 sizeBuilder:=by kernel_rfl
 liesBuilder:=by kernel_rfl
 t5:=Tryd.underlying5
 a5:=Tryd.isAgg5
 z5:=Tryd.sizeOf5
 v5:=Tryd.zeroValue5
 infoByte:=by kernel_rfl
 cellsByte:=by kernel_rfl
 sizeByte:=by kernel_rfl
 neB5:=by decide }
open Go.RowKit Go.Lib in
theorem Tryd.strings_Repeat_main (s:ByteArray) (c:Nat) (w:World) (hc2:2≤c) (hc:c≤9223372036854775807) (hlen:s.size * c≤140737488355328) (h0:0<s.size) :
 Calls Tryd.prog 62 #[.string s,.int .i64 c] w fun e w'=>e = .returned (.string ⟨(Lib.repeatL s.data.toList c).toArray⟩)∧Below w.heap.size w w':=Any.strings_Repeat_main Tryd.lays105 Tryd.Builder_Extra_105 s c w hc2 hc hlen h0
open Go.RowKit Go.Lib in
theorem Tryd.strings_Repeat_zero (s:ByteArray) (w:World) :
 Calls Tryd.prog 62 #[.string s,.int .i64 0] w fun e w'=>e = .returned (.string ⟨#[]⟩)∧w'=w:=Any.strings_Repeat_zero Tryd.lays105 s w
open Go.RowKit Go.Lib in
theorem Tryd.strings_Repeat_one (s:ByteArray) (w:World) :
 Calls Tryd.prog 62 #[.string s,.int .i64 1] w fun e w'=>e = .returned (.string s)∧w'=w:=Any.strings_Repeat_one Tryd.lays105 s w
def Tryd.laysNm216_ren:Go.Shelf.Ren:=⟨fun | 16=>35 | n=>n,fun | 24=>30 | 9=>9 | 4=>4 | n=>n,fun | n=>n⟩
theorem Tryd.laysNm216:Go.Proofs.Lays2.n16 Tryd.prog Tryd.laysNm216_ren:={
 mixed:=by kernel_rfl
 f16:=Tryd.func35.trans (congrArg some (by kernel_rfl))
 t4:=Tryd.underlying4
 a4:=Tryd.isAgg4
 z4:=Tryd.sizeOf4
 v4:=Tryd.zeroValue4
 t9:=Tryd.underlying9
 a9:=Tryd.isAgg9
 z9:=Tryd.sizeOf9
 v9:=Tryd.zeroValue9
 t24:=Tryd.underlying30
 a24:=Tryd.isAgg30
 z24:=Tryd.sizeOf30
 v24:=Tryd.zeroValue30
 i9:=by kernel_rfl }
open Go.RowKit Go.Lib in
theorem Tryd.slices_Clone_string (b off n c:Nat) (zs:List ByteArray) (w:World) (hz:n≤zs.length) (hbig:n * 16≤140737488355328) (hc : ∀ j,j<zs.length→w.cell? ⟨b,off+j,none⟩=some (.string (zs.getD j ByteArray.empty))) :
 Calls Tryd.prog 35 #[.slice (some ⟨b,off,none⟩) n c] w fun e w' => ∃ v',e = .returned v'∧w'.ownsRow w.heap.size 9 1 v' n ((zs.take n).map (Value.string))∧v' ≠ .slice none 0 0∧Below w.heap.size w w':=Any.slices_Clone_string Tryd.laysNm216 b off n c zs w hz hbig hc
open Go.RowKit Go.Lib in
theorem Tryd.slices_Clone_string_nil (n c:Nat) (w:World) :
 Calls Tryd.prog 35 #[.slice none n c] w fun e w'=>e = .returned (.slice none 0 0)∧w'=w:=Any.slices_Clone_string_nil Tryd.laysNm216 n c w
open Go.RowKit Go.Lib in
theorem Tryd.slices_Clone_string_zero (a:Addr) (c:Nat) (w:World) :
 Calls Tryd.prog 35 #[.slice (some a) 0 c] w fun e w' => ∃ v',e = .returned v'∧w'.ownsRow w.heap.size 9 1 v' 0 []∧v' ≠ .slice none 0 0∧Below w.heap.size w w':=Any.slices_Clone_string_zero Tryd.laysNm216 a c w
end Go.Proofs
end
section
namespace Go.Proofs.YtajhkncolbgkbaaDoor
def crcP:Nat:=3988292384
def crcS (c:Nat):Nat:=if c % 2=1 then (c / 2) ^^^ crcP else c / 2
def crcR:Nat→Nat→Nat
 | 0,c=>c
 | k+1,c=>crcR k (crcS c)
def crcB (c:Nat) (x:Int):Nat:=crcR 8 (c ^^^ x.toNat)
def crcT (l:List Int) (c:Nat):Nat:=l.foldl crcB c
def crcV (l:List Int):Nat:=crcT l 4294967295 ^^^ 4294967295
theorem crcS_lt {c:Nat} (h:c<2 ^ 32):crcS c<2 ^ 32:=by
 unfold crcS
 split
 · exact Nat.xor_lt_two_pow (by omega) (by decide)
 · omega
theorem xor_cancel {a b p:Nat} (h:a ^^^ p=b ^^^ p):a=b:=by
 have:=congrArg (· ^^^ p) h
 simpa [Nat.xor_assoc] using this
theorem crcS_inj {c d:Nat} (hc:c<2 ^ 32) (hd:d<2 ^ 32) (h:crcS c=crcS d):c=d:=by
 have far : ∀ a b:Nat,a<2 ^ 31→b<2 ^ 31→a ^^^ crcP ≠ b:=by
  intro a b ha hb e
  have h1:a ^^^ b=crcP:=by rw [←e,←Nat.xor_assoc,Nat.xor_self,Nat.zero_xor]
  have h2:=Nat.xor_lt_two_pow ha hb
  rw [h1] at h2
  exact absurd h2 (by decide)
 unfold crcS at h
 split at h <;> split at h
 · have:=xor_cancel h;omega
 · exact absurd h (far _ _ (by omega) (by omega))
 · exact absurd h.symm (far _ _ (by omega) (by omega))
 · omega
theorem crcR_lt : ∀ (k:Nat) {c:Nat},c<2 ^ 32→crcR k c<2 ^ 32
 | 0,_,h=>h
 | k+1,_,h=>crcR_lt k (crcS_lt h)
theorem crcR_inj : ∀ (k:Nat) {c d:Nat},c<2 ^ 32→d<2 ^ 32→crcR k c=crcR k d→c=d
 | 0,_,_,_,_,h=>h
 | k+1,_,_,hc,hd,h=>crcS_inj hc hd (crcR_inj k (crcS_lt hc) (crcS_lt hd) h)
def Byts (l:List Int):Prop := ∀ x∈l,0≤x∧x≤255
theorem crcB_lt {c:Nat} (h:c<2 ^ 32) {x:Int} (hx:0≤x∧x≤255):crcB c x<2 ^ 32:=crcR_lt 8 (Nat.xor_lt_two_pow h (by omega))
theorem crcT_lt : ∀ {l:List Int},Byts l → ∀ {c:Nat},c<2 ^ 32→crcT l c<2 ^ 32
 | [],_,_,h=>h
 | x :: l, hl, _, h => by
   unfold crcT
   rw [List.foldl_cons]
   exact crcT_lt (l:=l) (fun y hy=>hl y (by simp [hy])) (crcB_lt h (hl x (by simp)))
theorem crcT_inj : ∀ {l:List Int},Byts l → ∀ {c d:Nat},c<2 ^ 32→d<2 ^ 32→crcT l c=crcT l d→c=d
 | [],_,_,_,_,_,h=>h
 | x :: l, hl, c, d, hc, hd, h => by
   unfold crcT at h
   rw [List.foldl_cons,List.foldl_cons] at h
   have hx:=hl x (by simp)
   have h1:=crcT_inj (l:=l) (fun y hy=>hl y (by simp [hy])) (crcB_lt hc hx) (crcB_lt hd hx) h
   have h2:=crcR_inj 8 (Nat.xor_lt_two_pow hc (by omega)) (Nat.xor_lt_two_pow hd (by omega)) h1
   exact xor_cancel h2
theorem crcT_app (l m:List Int) (c:Nat):crcT (l++m) c=crcT m (crcT l c):=List.foldl_append ..
theorem crc_one {p s:List Int} {x y:Int} (hp:Byts p) (hs:Byts s) (hx:0≤x∧x≤255) (hy:0≤y∧y≤255) (h:crcV (p++x::s)=crcV (p++y::s)):x=y:=by
 have h0:(4294967295:Nat)<2 ^ 32:=by decide
 have h1:=xor_cancel h
 rw [crcT_app,crcT_app] at h1
 have hc:=crcT_lt hp h0
 have h2:=crcT_inj (l:=s) hs (crcB_lt hc hx) (crcB_lt hc hy) h1
 have h3:=crcR_inj 8 (Nat.xor_lt_two_pow hc (by omega)) (Nat.xor_lt_two_pow hc (by omega)) h2
 rw [Nat.xor_comm,Nat.xor_comm _ y.toNat] at h3
 have:=xor_cancel h3
 omega
theorem crcV_lt {l:List Int} (h:Byts l):crcV l<2 ^ 32:=Nat.xor_lt_two_pow (crcT_lt h (by decide)) (by decide)
end Go.Proofs.YtajhkncolbgkbaaDoor
end
section
namespace Go.Proofs.YtajhkncolbgkbaaDoor
def fourP (n:Nat):List Int:=[((n % 256:Nat):Int),((n / 256 % 256:Nat):Int),((n / 65536 % 256:Nat):Int),((n / 16777216 % 256:Nat):Int)]
theorem four_len (n:Nat):(fourP n).length=4:=rfl
theorem byts_four (n:Nat):Byts (fourP n):=by
 intro x hx
 simp only [fourP,List.mem_cons,List.not_mem_nil,or_false] at hx
 rcases hx with rfl | rfl | rfl | rfl <;> omega
theorem four_inj {a b:Nat} (ha:a<2 ^ 32) (hb:b<2 ^ 32) (h:fourP a=fourP b):a=b:=by
 simp only [fourP,List.cons.injEq,and_true,Int.natCast_inj] at h
 omega
def numP (l:List Int):Nat:=(l.getD 0 0).toNat+256 * (l.getD 1 0).toNat+65536 * (l.getD 2 0).toNat+16777216 * (l.getD 3 0).toNat
theorem num_four {n:Nat} (h:n<2 ^ 32) (r:List Int):numP (fourP n++r)=n:=by
 simp only [numP,fourP,List.cons_append,List.nil_append,List.getD_cons_zero,List.getD_cons_succ]
 omega
theorem num_lt {l:List Int} (hb:Byts l):numP l<2 ^ 32:=by
 have key : ∀ i,0≤l.getD i 0∧l.getD i 0≤255:=fun i=>by
  rw [List.getD_eq_getElem?_getD]
  cases h:l[i]? with
  | none=>simp
  | some x=>exact hb x (List.mem_of_getElem? h)
 have h0:=key 0
 have h1:=key 1
 have h2:=key 2
 have h3:=key 3
 unfold numP
 omega
def sealP (n:Nat) (data:List Int):List Int:=fourP n++data++fourP (crcV (fourP n++data))++fourP n
def zerosP (n:Nat):List Int:=List.replicate n 0
def goodP (l:List Int):Prop:=l.length=128∧(l=zerosP 128∨(1≤numP l∧numP l≤2 ^ 30∧l=sealP (numP l) ((l.drop 4).take 116)))
theorem seal_len {n:Nat} {data:List Int} (h:data.length=116):(sealP n data).length=128:=by simp [sealP,four_len,h]
theorem seal_head (n:Nat) (data:List Int):(sealP n data).take 4=fourP n:=by simp [sealP,fourP]
theorem seal_tail {n:Nat} {data:List Int} (h:data.length=116):(sealP n data).drop 124=fourP n:=by
 have:(fourP n++data++fourP (crcV (fourP n++data))).length=124:=by simp [four_len,h]
 unfold sealP
 rw [List.drop_append_of_le_length (by omega),List.drop_of_length_le (by omega),List.nil_append]
theorem seal_num {n:Nat} (hn:n<2 ^ 32) (data:List Int):numP (sealP n data)=n:=by
 unfold sealP
 rw [List.append_assoc,List.append_assoc]
 exact num_four hn _
theorem seal_data {n:Nat} {data:List Int} (h:data.length=116):((sealP n data).drop 4).take 116=data:=by
 unfold sealP
 rw [List.append_assoc,List.append_assoc,List.drop_append_of_le_length (by simp [four_len]),List.drop_of_length_le (by simp [four_len]),List.nil_append,List.take_append_of_le_length (by omega),List.take_of_length_le (by omega)]
theorem seal_good {n:Nat} (h1:1≤n) (h2:n≤2 ^ 30) {data:List Int} (h:data.length=116):goodP (sealP n data):=by
 refine ⟨seal_len h,.inr ?_⟩
 rw [seal_num (by omega),seal_data h]
 exact ⟨h1,h2,rfl⟩
theorem byts_seal {n:Nat} {data:List Int} (h:Byts data):Byts (sealP n data):=by
 intro x hx
 simp only [sealP,List.mem_append] at hx
 rcases hx with ((hx | hx) | hx) | hx
 · exact byts_four _ x hx
 · exact h x hx
 · exact byts_four _ x hx
 · exact byts_four _ x hx
theorem good_ends {l:List Int} (h:goodP l):l.take 4=l.drop 124:=by
 obtain ⟨hl,rfl | ⟨_,_,h⟩⟩:=h
 · decide
 · have hd:((l.drop 4).take 116).length=116:=by simp [hl]
   rw [h,seal_head,seal_tail hd]
theorem rot_sealed {n:Nat} (hn1:1≤n) (hn:n<2 ^ 32) {data:List Int} (hd:data.length=116) (hb:Byts data) (i:Nat) (hi:i<128) (y:Int) (hy:0≤y∧y≤255) (hne:(sealP n data)[i]? ≠ some y) : ¬goodP ((sealP n data).set i y):=by
 intro h
 have hL:=seal_len (n:=n) hd
 have he:=good_ends h
 have hh:=seal_head n data
 have ht:=seal_tail (n:=n) hd
 have hset:((sealP n data).set i y)[i]? = some y:=by rw [List.getElem?_set_self (by omega)]
 rcases Nat.lt_or_ge i 4 with h1 | h1
 · rw [List.drop_set_of_lt (by omega),ht,←hh] at he
   have h2:=congrArg (fun l=>l[i]?) he
   simp only [List.getElem?_take,if_pos h1] at h2
   rw [hset] at h2
   exact hne h2.symm
 rw [List.take_set_of_le (by omega),hh] at he
 rcases Nat.lt_or_ge i 124 with h2 | h2
 rotate_left
 · rw [←ht] at he
   have h3:=congrArg (fun l=>l[i - 124]?) he
   simp only [List.getElem?_drop] at h3
   rw [show 124+(i - 124)=i by omega,hset] at h3
   exact hne h3
 obtain ⟨_,hz | ⟨_,_,hs⟩⟩:=h
 · have h3:=congrArg (fun l=>l.take 4) hz
   simp only [List.take_set_of_le (show 4≤i by omega)] at h3
   rw [hh] at h3
   have h4:fourP n=fourP 0:=h3
   have:=four_inj hn (by decide) h4
   omega
 have hnum:numP ((sealP n data).set i y)=n:=by
  have : ∀ l:List Int,numP l=numP (l.take 4):=fun l=>by
   unfold numP
   simp only [List.getD_eq_getElem?_getD,List.getElem?_take]
   simp
  rw [this,List.take_set_of_le (by omega),hh,←List.append_nil (fourP n),num_four hn]
 rw [hnum] at hs
 generalize hD:(((sealP n data).set i y).drop 4).take 116=D at hs
 have hDl:D.length=116:=by rw [←hD];simp [hL]
 rcases Nat.lt_or_ge i 120 with h3 | h3
 · -- in the data: the checksum differs
   have hD2:D=data.set (i - 4) y:=by
    rw [←hD,List.drop_set,if_neg (by omega),List.take_set,seal_data hd]
   have hc:(((sealP n data).set i y).drop 120).take 4=((sealP n D).drop 120).take 4:=congrArg (fun l=>(l.drop 120).take 4) hs
   rw [List.drop_set_of_lt (by omega)] at hc
   have key : ∀ d:List Int,d.length=116→((sealP n d).drop 120).take 4=fourP (crcV (fourP n++d)):=fun d hd=>by
    unfold sealP
    rw [List.append_assoc,List.drop_append_of_le_length (by simp [four_len,hd]),List.drop_of_length_le (by simp [four_len,hd]),List.nil_append,List.take_append_of_le_length (by simp [four_len]),List.take_of_length_le (by simp [four_len])]
   have hby:Byts D:=by
    rw [hD2];intro x hx
    rcases List.mem_or_eq_of_mem_set hx with hx | rfl
    · exact hb x hx
    · exact hy
   have happ : ∀ d:List Int,Byts d→Byts (fourP n++d):=fun d h x hx=>by
    rcases List.mem_append.1 hx with hx | hx
    · exact byts_four _ x hx
    · exact h x hx
   rw [key data hd,key D hDl] at hc
   have hcr:=four_inj (crcV_lt (happ _ hb)) (crcV_lt (happ _ hby)) hc
   have hj:i - 4<data.length:=by omega
   have e1:data=data.take (i - 4)++data[i - 4]::data.drop (i - 4+1):=by rw [←List.drop_eq_getElem_cons hj,List.take_append_drop]
   have e2:data.set (i - 4) y=data.take (i - 4)++y::data.drop (i - 4+1):=by rw [List.set_eq_take_append_cons_drop,if_pos hj]
   rw [hD2,e2] at hcr
   have hcr2:crcV ((fourP n++data.take (i - 4))++data[i - 4]::data.drop (i - 4+1))=crcV ((fourP n++data.take (i - 4))++y::data.drop (i - 4+1)):=by
    rw [List.append_assoc,←e1,List.append_assoc];exact hcr
   have hxy:=crc_one (happ _ fun x hx=>hb x (List.mem_of_mem_take hx)) (fun x hx=>hb x (List.mem_of_mem_drop hx)) (hb _ (List.getElem_mem hj)) hy hcr2
   apply hne
   have:(sealP n data)[i]? = data[i - 4]? := by
    have h5:=congrArg (fun l=>l[i - 4]?) (seal_data (n:=n) hd)
    simp only [List.getElem?_take,List.getElem?_drop] at h5
    rw [if_pos (by omega),show 4+(i - 4)=i by omega] at h5
    exact h5
   rw [this,List.getElem?_eq_getElem hj,hxy]
 · -- in the checksum
   have hD2:D=data:=by
    rw [←hD,List.drop_set,if_neg (by omega),List.take_set_of_le (by omega),seal_data hd]
   rw [hD2] at hs
   have h3:((sealP n data).set i y)[i]? = (sealP n data)[i]? := congrArg (fun l=>l[i]?) hs
   rw [hset] at h3
   exact hne h3.symm
end Go.Proofs.YtajhkncolbgkbaaDoor
end
section
namespace Go.Proofs.YtajhkncolbgkbaaDoor
instance (l:List Int):Decidable (goodP l):=by unfold goodP;infer_instance
def numOf (l:List Int):Nat:=if goodP l then numP l else 0
def dataP (l:List Int):List Int:=(l.drop 4).take 116
inductive DOp where
 | w (page:Nat) (s:List Int)
 | f
def Dk.op (d:Dk):DOp→Dk × Int
 | .w i s=>d.write i 0 s
 | .f=>d.flush
def Dk.run (d:Dk):List DOp→Dk × Int
 | []=>(d,0)
 | o::l=>if (d.op o).2=0 then (d.op o).1.run l else d.op o
def recP (l:List Nat):List Int:=(((l.length % 256:Nat):Int)::l.flatMap fun x=>[((x % 256:Nat):Int),((x / 256 % 256:Nat):Int)])++zerosP (115 - 2 * l.length)
theorem rec_len {l:List Nat} (h:l.length≤57):(recP l).length=116:=by
 have : ∀ l:List Nat,(l.flatMap fun x=>[((x % 256:Nat):Int),((x / 256 % 256:Nat):Int)]).length=2 * l.length:=by
  intro l
  induction l with
  | nil=>rfl
  | cons x l ih=>rw [List.flatMap_cons,List.length_append,ih,List.length_cons];simp only [List.length_cons,List.length_nil];omega
 unfold recP zerosP
 rw [List.length_append,List.length_cons,this,List.length_replicate]
 omega
theorem rec_byts (l:List Nat):Byts (recP l):=by
 intro x hx
 simp only [recP,zerosP,List.cons_append,List.mem_cons,List.mem_append,List.mem_flatMap,List.mem_replicate] at hx
 rcases hx with rfl | ⟨y,_,rfl | rfl | h⟩ | ⟨_,rfl⟩
 · omega
 · omega
 · omega
 · cases h
 · omega
def word2 (data:List Int) (j:Nat):Nat:=(data.getD (1+2 * j) 0).toNat+256 * (data.getD (2+2 * j) 0).toNat
theorem rec_word {l:List Nat} (hl : ∀ x∈l,x<65536) {j:Nat} {x:Nat} (h:l[j]? = some x):word2 (recP l) j=x:=by
 have key : ∀ (l:List Nat) (r:List Int) (j x:Nat),(∀ x∈l,x<65536)→l[j]? = some x→((l.flatMap fun x=>[((x % 256:Nat):Int),((x / 256 % 256:Nat):Int)])++r).getD (2 * j) 0=((x % 256:Nat):Int)∧((l.flatMap fun x=>[((x % 256:Nat):Int),((x / 256 % 256:Nat):Int)])++r).getD (2 * j+1) 0=((x / 256 % 256:Nat):Int):=by
  intro l
  induction l with
  | nil=>intro r j x _ h;simp at h
  | cons y l ih =>
    intro r j x hl h
    cases j with
    | zero =>
      obtain rfl:y=x:=by simpa using h
      exact ⟨rfl,rfl⟩
    | succ j =>
      have:=ih r j x (fun z hz=>hl z (List.mem_cons_of_mem _ hz)) (by simpa using h)
      rw [List.flatMap_cons,show 2 * (j+1)=2 * j+1+1 by omega]
      simp only [List.cons_append,List.nil_append,List.getD_cons_succ]
      exact this
 have hx:=hl x (List.mem_of_getElem? h)
 obtain ⟨h1,h2⟩:=key l (zerosP (115 - 2 * l.length)) j x hl h
 unfold word2 recP
 rw [show 1+2 * j=2 * j+1 by omega,show 2+2 * j=2 * j+1+1 by omega]
 simp only [List.cons_append,List.getD_cons_succ]
 rw [h1,h2]
 omega
def tgGo (image:List (List Int)) (t:Nat) (data:List Int):Nat→Option (List Nat)
 | 0=>some []
 | j + 1 => match tgGo image t data j with
   | none=>none
   | some l=>if goodP (image.getD (1+j) [])∧numP (image.getD (1+j) [])=t∧word2 data j+17<image.length∧(0<j→l.getD (j - 1) 0<word2 data j) then some (l++[word2 data j]) else none
def logK (image:List (List Int)):Nat:=if goodP (image.getD 0 []) then ((dataP (image.getD 0 [])).getD 0 0).toNat else 0
def targetsP (image:List (List Int)):List Nat :=
 if numOf (image.getD 0 [])=0∨logK image<1∨16<logK image then [] else match tgGo image (numOf (image.getD 0 [])) (dataP (image.getD 0 [])) (logK image) with
 | none=>[]
 | some l=>if recP l=dataP (image.getD 0 []) then l else []
theorem tg_len {image:List (List Int)} {t:Nat} {data:List Int} : ∀ {k:Nat} {l:List Nat},tgGo image t data k=some l→l.length=k
 | 0,l,h=>by simp only [tgGo,Option.some.injEq] at h;subst h;rfl
 | k + 1, l, h => by
   unfold tgGo at h
   cases h1:tgGo image t data k with
   | none=>rw [h1] at h;cases h
   | some m =>
     rw [h1] at h
     simp only at h
     split at h
     · simp only [Option.some.injEq] at h;subst h
       rw [List.length_append,tg_len h1];rfl
     · cases h
theorem tg_some {image:List (List Int)} {t:Nat} {data:List Int} {l:List Nat} (hw : ∀ j x,l[j]? = some x→word2 data j=x) (hg : ∀ j,j<l.length→goodP (image.getD (1+j) [])∧numP (image.getD (1+j) [])=t) (hi : ∀ x∈l,x+17<image.length) (hs:l.Pairwise (· < ·)) : ∀ k,k≤l.length→tgGo image t data k=some (l.take k)
 | 0,_=>rfl
 | k + 1, hk => by
   have h1:=tg_some hw hg hi hs k (by omega)
   have hkl:k<l.length:=by omega
   have hx:=hw k l[k] (List.getElem?_eq_getElem hkl)
   unfold tgGo
   rw [h1]
   simp only
   have hlt:0<k→(l.take k).getD (k - 1) 0<word2 data k:=fun h0=>by
    rw [hx,List.getD_eq_getElem?_getD,List.getElem?_take,if_pos (by omega),List.getElem?_eq_getElem (by omega)]
    exact List.pairwise_iff_getElem.1 hs (k - 1) k (by omega) hkl (by omega)
   rw [if_pos ⟨(hg k hkl).1,(hg k hkl).2,by rw [hx];exact hi _ (List.getElem_mem hkl),hlt⟩,hx,List.take_succ_eq_append_getElem hkl]
theorem tg_none {image:List (List Int)} {t:Nat} {data:List Int} {i:Nat} (h : ¬goodP (image.getD (1+i) [])) : ∀ k,i<k→tgGo image t data k=none
 | 0,hk=>by omega
 | k + 1, hk => by
   unfold tgGo
   by_cases e:i=k
   · subst e
     cases tgGo image t data i with
     | none=>rfl
     | some l=>simp only;rw [if_neg (fun h'=>h h'.1)]
   · rw [tg_none h k (by omega)]
def replayP (image:List (List Int)):List DOp:=((targetsP image).mapIdx fun j x=>DOp.w (17+x) (image.getD (1+j) []))++(if targetsP image=[] then [] else [.f])
def stepsP (t:Nat) (l:List (Nat × List Int)):List DOp :=
 (l.mapIdx fun j x=>DOp.w (1+j) (sealP t x.2))++DOp.w 0 (sealP t (recP (l.map (·.1)))) :: .f::(l.map fun x=>DOp.w (17+x.1) (sealP t x.2))++[.f]
structure Pgs where
 d:Dk
 number:Nat
 bad:List Nat
 closed:Bool
def Pgs.check (s:Pgs) (l:List (Int × List Int)):Int :=
 if s.closed=true then 20
 else if 16<l.length∨1073741824≤s.number then 2
 else if l=[] then 1
 else if (∀ x∈l,0≤x.1∧x.1+17<s.d.p.length∧x.2.length=116)∧(l.map (·.1)).Pairwise (· < ·) then 0 else 1
end Go.Proofs.YtajhkncolbgkbaaDoor
end
section
namespace Go.Proofs.YtajhkncolbgkbaaDoor
open Go.RowKit Go.Maps
theorem strCells : Tryd.prog.cellsOf 9=1:=by kernel_rfl
end Go.Proofs.YtajhkncolbgkbaaDoor
end
section
namespace Go.Proofs.YtajhkncolbgkbaaDoor
structure Pt where
 x:Int
 y:Int
 z:Int
deriving DecidableEq
structure Box where
 lo:Pt
 hi:Pt
deriving DecidableEq
def Pt.zero:Pt:=⟨0,0,0⟩
def Box.zero:Box:=⟨Pt.zero,Pt.zero⟩
def Pt.add (p q:Pt):Pt:=⟨p.x+q.x,p.y+q.y,p.z+q.z⟩
def Pt.sub (p q:Pt):Pt:=⟨p.x - q.x,p.y - q.y,p.z - q.z⟩
def inB (p:Pt) (b:Box):Bool:=decide (b.lo.x≤p.x∧p.x<b.hi.x∧b.lo.y≤p.y∧p.y<b.hi.y∧b.lo.z≤p.z∧p.z<b.hi.z)
def emptyB (b:Box):Bool := !inB b.lo b
def sizeB (b:Box):Pt:=if emptyB b=true then Pt.zero else b.hi.sub b.lo
def volB (b:Box):Int:=(sizeB b).x * (sizeB b).y * (sizeB b).z
def indexB (b:Box) (p:Pt):Int:=if inB p b=true then ((p.z - b.lo.z) * (sizeB b).y+(p.y - b.lo.y)) * (sizeB b).x+(p.x - b.lo.x) else -1
def atB (b:Box) (i:Int):Pt:=if 0≤i∧i<volB b then ⟨b.lo.x+i % (sizeB b).x,b.lo.y+i / (sizeB b).x % (sizeB b).y,b.lo.z+i / (sizeB b).x / (sizeB b).y⟩ else Pt.zero
structure Small (b:Box) (m:Int):Prop where
 lx : -m≤b.lo.x
 ly : -m≤b.lo.y
 lz : -m≤b.lo.z
 hx:b.hi.x≤m
 hy:b.hi.y≤m
 hz:b.hi.z≤m
theorem inB_iff {p:Pt} {b:Box}:inB p b=true ↔ b.lo.x≤p.x∧p.x<b.hi.x∧b.lo.y≤p.y∧p.y<b.hi.y∧b.lo.z≤p.z∧p.z<b.hi.z:=by simp [inB]
theorem emptyB_iff {b:Box}:emptyB b=false ↔ b.lo.x<b.hi.x∧b.lo.y<b.hi.y∧b.lo.z<b.hi.z:=by simp [emptyB,inB]
theorem sizeB_full {b:Box} (h:emptyB b=false):sizeB b=b.hi.sub b.lo:=by simp [sizeB,h]
theorem in_not_empty {p:Pt} {b:Box} (h:inB p b=true):emptyB b=false:=by
 have:=inB_iff.1 h
 rw [emptyB_iff];omega
theorem indexB_bd {p:Pt} {b:Box} (h:inB p b=true):0≤indexB b p∧indexB b p<volB b:=by
 have he:=in_not_empty h
 have h':=inB_iff.1 h
 unfold indexB volB
 rw [if_pos h,sizeB_full he]
 simp only [Pt.sub]
 generalize hx:p.x - b.lo.x=dx
 generalize hy:p.y - b.lo.y=dy
 generalize hz:p.z - b.lo.z=dz
 generalize hsx:b.hi.x - b.lo.x=sx
 generalize hsy:b.hi.y - b.lo.y=sy
 generalize hsz:b.hi.z - b.lo.z=sz
 have a1:0≤dx:=by omega
 have a2:dx+1≤sx:=by omega
 have a3:0≤dy:=by omega
 have a4:dy+1≤sy:=by omega
 have a5:0≤dz:=by omega
 have a6:dz+1≤sz:=by omega
 have b1:0≤dz * sy:=Int.mul_nonneg a5 (by omega)
 have b2:dz * sy+sy≤sz * sy:=by
  have:=Int.mul_le_mul_of_nonneg_right a6 (show 0≤sy by omega)
  rw [Int.add_mul,Int.one_mul] at this;exact this
 have b3:0≤(dz * sy+dy) * sx:=Int.mul_nonneg (by omega) (by omega)
 have b4:(dz * sy+dy+1) * sx≤sz * sy * sx:=Int.mul_le_mul_of_nonneg_right (by omega) (by omega)
 rw [Int.add_mul,Int.one_mul] at b4
 have b5:sx * sy * sz=sz * sy * sx:=by rw [Int.mul_comm sx sy,Int.mul_comm (sy * sx) sz,Int.mul_assoc]
 omega
end Go.Proofs.YtajhkncolbgkbaaDoor
end
