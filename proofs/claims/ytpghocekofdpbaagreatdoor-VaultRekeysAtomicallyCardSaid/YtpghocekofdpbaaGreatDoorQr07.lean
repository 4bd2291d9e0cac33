import Derived.Shelf.Strings.OnBuilder
import Derived.Shelf.Strings.Trim
import Derived.Shelf.Strconv.Clone
import Derived.Shelf.Unicode.Decode
import Derived.Shelf.Strings.Runes
import Derived.Shelf.Strings.AsciiSet
import Derived.Shelf.Strings.Repeat
import Derived.Shelf.Unicode.DecodeLast
import Derived.Shelf.Strings.BuilderCap
import Derived.Shelf.Slices.Clone
import Derived.Test.YtpghocekofdpbaaGreatDoorProg
namespace Go.Proofs
open Go.Shelf
def Tryz.lays169_ren:Go.Shelf.Ren:=⟨fun | 169=>134 | n=>n,fun | 70=>186 | 9=>9 | 0=>0 | 72=>188 | 37=>66 | 127=>222 | 3=>3 | 5=>5 | n=>n,fun | n=>n⟩
theorem Tryz.lays169:Go.Proofs.Lays.n169 Tryz.prog Tryz.lays169_ren:= {
  mixed:=by kernel_rfl
  f169:=Tryz.func134.trans (congrArg some (by kernel_rfl))
  t0:=Tryz.underlying0
  a0:=Tryz.isAgg0
  z0:=Tryz.sizeOf0
  v0:=Tryz.zeroValue0
  t3:=Tryz.underlying3
  a3:=Tryz.isAgg3
  z3:=Tryz.sizeOf3
  v3:=Tryz.zeroValue3
  t9:=Tryz.underlying9
  a9:=Tryz.isAgg9
  z9:=Tryz.sizeOf9
  v9:=Tryz.zeroValue9
  t37:=Tryz.underlying66
  a37:=Tryz.isAgg66
  z37:=Tryz.sizeOf66
  v37:=Tryz.zeroValue66
  t70:=Tryz.underlying186
  a70:=Tryz.isAgg186
  z70:=Tryz.sizeOf186
  v70:=Tryz.zeroValue186
  t72:=Tryz.underlying188
  a72:=Tryz.isAgg188
  z72:=Tryz.sizeOf188
  v72:=Tryz.zeroValue188
  t127:=Tryz.underlying222
  a127:=Tryz.isAgg222
  z127:=Tryz.sizeOf222
  v127:=Tryz.zeroValue222 }
theorem Tryz.Builder_Extra_169:Builder.Extra Tryz.prog Tryz.lays169_ren:= {
  sizeBuilder:=by kernel_rfl
  liesBuilder:=by kernel_rfl
  t5:=Tryz.underlying5
  a5:=Tryz.isAgg5
  z5:=Tryz.sizeOf5
  v5:=Tryz.zeroValue5
  infoByte:=by kernel_rfl
  cellsByte:=by kernel_rfl
  sizeByte:=by kernel_rfl
  neB5:=by decide }
open Go.RowKit in
theorem Tryz.Builder_String_any (B b:Nat) (l:List UInt8) (w:World) (h:Lib.IsBuilder 188 5 B b (Lib.byteCells l) w) (hBw:B<=w.heap.size):
    Calls Tryz.prog 134 #[.pointer (some ⟨b,0,none⟩)] w fun e w'=>e= .returned (.string ⟨l.toArray⟩)/\Below B w w':=Any.Builder_String_any Tryz.lays169 Tryz.Builder_Extra_169 B b l w h hBw
def Tryz.lays165_ren:Go.Shelf.Ren:=⟨fun | 165=>131 | 240=>161 | 241=>162 | 276=>178 | 277=>179 | n=>n,fun | 70=>186 | 3=>3 | 0=>0 | 4=>4 | 9=>9 | 20=>20 | 72=>188 | 37=>66 | 164=>244 | 5=>5 | n=>n,fun | n=>n⟩
theorem Tryz.lays165:Go.Proofs.Lays.n165 Tryz.prog Tryz.lays165_ren:= {
  mixed:=by kernel_rfl
  f165:=Tryz.func131.trans (congrArg some (by kernel_rfl))
  f240:=Tryz.func161.trans (congrArg some (by kernel_rfl))
  f241:=Tryz.func162.trans (congrArg some (by kernel_rfl))
  f276:=Tryz.func178.trans (congrArg some (by kernel_rfl))
  f277:=Tryz.func179.trans (congrArg some (by kernel_rfl))
  t0:=Tryz.underlying0
  a0:=Tryz.isAgg0
  z0:=Tryz.sizeOf0
  v0:=Tryz.zeroValue0
  t3:=Tryz.underlying3
  a3:=Tryz.isAgg3
  z3:=Tryz.sizeOf3
  v3:=Tryz.zeroValue3
  t4:=Tryz.underlying4
  a4:=Tryz.isAgg4
  z4:=Tryz.sizeOf4
  v4:=Tryz.zeroValue4
  t9:=Tryz.underlying9
  a9:=Tryz.isAgg9
  z9:=Tryz.sizeOf9
  v9:=Tryz.zeroValue9
  t20:=Tryz.underlying20
  a20:=Tryz.isAgg20
  z20:=Tryz.sizeOf20
  v20:=Tryz.zeroValue20
  t37:=Tryz.underlying66
  a37:=Tryz.isAgg66
  z37:=Tryz.sizeOf66
  v37:=Tryz.zeroValue66
  t70:=Tryz.underlying186
  a70:=Tryz.isAgg186
  z70:=Tryz.sizeOf186
  v70:=Tryz.zeroValue186
  t72:=Tryz.underlying188
  a72:=Tryz.isAgg188
  z72:=Tryz.sizeOf188
  v72:=Tryz.zeroValue188
  t164:=Tryz.underlying244
  a164:=Tryz.isAgg244
  z164:=Tryz.sizeOf244
  v164:=Tryz.zeroValue244 }
theorem Tryz.Builder_Extra_165:Builder.Extra Tryz.prog Tryz.lays165_ren:= {
  sizeBuilder:=by kernel_rfl
  liesBuilder:=by kernel_rfl
  t5:=Tryz.underlying5
  a5:=Tryz.isAgg5
  z5:=Tryz.sizeOf5
  v5:=Tryz.zeroValue5
  infoByte:=by kernel_rfl
  cellsByte:=by kernel_rfl
  sizeByte:=by kernel_rfl
  neB5:=by decide }
open Go.RowKit in
theorem Tryz.Builder_Grow_fresh (B b n:Nat) (w:World) (hB:B<=b) (hbk:w.heap[b]? =some (.cells #[.pointer none,.slice none 0 0] 188 (0,0))) (hBw:B<=w.heap.size) (hn:n<=281474976710656):
    Calls Tryz.prog 131 #[.pointer (some ⟨b,0,none⟩),.int .i64 n] w fun e w'=>e= .returned (.tuple #[])/\(Lib.BuilderAt 188 5 B b (.pointer (some ⟨b,0,none⟩)) [] w'/\Below B w w'):=Any.Builder_Grow_fresh Tryz.lays165 Tryz.Builder_Extra_165 B b n w hB hbk hBw hn
def Tryz.Rj:Go.Shelf.Ren:=⟨fun | 160=>186 | 232=>193 | 231=>192 | 227=>194 | 234=>196 | 233=>195 | 236=>198 | 235=>197 | 228=>202 | 271=>205 | 151=>204 | 197=>203 | 120=>209 | 152=>208 | 260=>207 | 137=>210 | 119=>211 | 224=>212 | 225=>213 | 217=>214 | 266=>215 | n=>n,fun | 9=>9 | 4=>4 | 3=>3 | 5=>5 | 117=>254 | 116=>253 | 0=>0 | 124=>257 | 21=>21 | 105=>262 | 46=>182 | 119=>266 | 139=>269 | 138=>268 | n=>n,fun | 3=>3 | 4=>4 | n=>n⟩
theorem Tryz.lays160:Go.Proofs.Lays.n160 Tryz.prog Tryz.Rj:= {
  mixed:=by kernel_rfl
  f119:=Tryz.func211.trans (congrArg some (by kernel_rfl))
  f120:=Tryz.func209.trans (congrArg some (by kernel_rfl))
  f137:=Tryz.func210.trans (congrArg some (by kernel_rfl))
  f151:=Tryz.func204.trans (congrArg some (by kernel_rfl))
  f152:=Tryz.func208.trans (congrArg some (by kernel_rfl))
  f160:=Tryz.func186.trans (congrArg some (by kernel_rfl))
  f197:=Tryz.func203.trans (congrArg some (by kernel_rfl))
  f217:=Tryz.func214.trans (congrArg some (by kernel_rfl))
  f224:=Tryz.func212.trans (congrArg some (by kernel_rfl))
  f225:=Tryz.func213.trans (congrArg some (by kernel_rfl))
  f227:=Tryz.func194.trans (congrArg some (by kernel_rfl))
  f228:=Tryz.func202.trans (congrArg some (by kernel_rfl))
  f231:=Tryz.func192.trans (congrArg some (by kernel_rfl))
  f232:=Tryz.func193.trans (congrArg some (by kernel_rfl))
  f233:=Tryz.func195.trans (congrArg some (by kernel_rfl))
  f234:=Tryz.func196.trans (congrArg some (by kernel_rfl))
  f235:=Tryz.func197.trans (congrArg some (by kernel_rfl))
  f236:=Tryz.func198.trans (congrArg some (by kernel_rfl))
  f260:=Tryz.func207.trans (congrArg some (by kernel_rfl))
  f266:=Tryz.func215.trans (congrArg some (by kernel_rfl))
  f271:=Tryz.func205.trans (congrArg some (by kernel_rfl))
  t0:=Tryz.underlying0
  a0:=Tryz.isAgg0
  z0:=Tryz.sizeOf0
  v0:=Tryz.zeroValue0
  t3:=Tryz.underlying3
  a3:=Tryz.isAgg3
  z3:=Tryz.sizeOf3
  v3:=Tryz.zeroValue3
  t4:=Tryz.underlying4
  a4:=Tryz.isAgg4
  z4:=Tryz.sizeOf4
  v4:=Tryz.zeroValue4
  t5:=Tryz.underlying5
  a5:=Tryz.isAgg5
  z5:=Tryz.sizeOf5
  v5:=Tryz.zeroValue5
  t9:=Tryz.underlying9
  a9:=Tryz.isAgg9
  z9:=Tryz.sizeOf9
  v9:=Tryz.zeroValue9
  t21:=Tryz.underlying21
  a21:=Tryz.isAgg21
  z21:=Tryz.sizeOf21
  v21:=Tryz.zeroValue21
  t46:=Tryz.underlying182
  a46:=Tryz.isAgg182
  z46:=Tryz.sizeOf182
  v46:=Tryz.zeroValue182
  t105:=Tryz.underlying262
  a105:=Tryz.isAgg262
  z105:=Tryz.sizeOf262
  v105:=Tryz.zeroValue262
  t116:=Tryz.underlying253
  a116:=Tryz.isAgg253
  z116:=Tryz.sizeOf253
  t117:=Tryz.underlying254
  a117:=Tryz.isAgg254
  z117:=Tryz.sizeOf254
  v117:=Tryz.zeroValue254
  t119:=Tryz.underlying266
  a119:=Tryz.isAgg266
  z119:=Tryz.sizeOf266
  t124:=Tryz.underlying257
  a124:=Tryz.isAgg257
  z124:=Tryz.sizeOf257
  v124:=Tryz.zeroValue257
  t138:=Tryz.underlying268
  a138:=Tryz.isAgg268
  z138:=Tryz.sizeOf268
  v138:=Tryz.zeroValue268
  t139:=Tryz.underlying269
  a139:=Tryz.isAgg269
  z139:=Tryz.sizeOf269
  v139:=Tryz.zeroValue269
  g3:=by kernel_rfl
  g4:=by kernel_rfl }
open Go.RowKit in
theorem Tryz.strings_Trim_one (s:ByteArray) (c:UInt8) (hc:c.toNat<128) (w:World) (hs:s.size<=9223372036854775807):
    Calls Tryz.prog 186 #[.string s,.string ⟨#[c]⟩] w fun e w'=>e= .returned (.string ⟨(Lib.trimB s.data.toList c).toArray⟩)/\(w'=w\/w'=w.drew):=Any.strings_Trim_one Tryz.lays160 s c hc w hs
def Tryz.Oa:Go.Shelf.Ren:=⟨fun | 316=>199 | n=>n,fun | 9=>9 | 3=>3 | 4=>4 | 37=>66 | 0=>0 | 127=>222 | 5=>5 | n=>n,fun | n=>n⟩
theorem Tryz.laysM316:Go.Proofs.LaysM.n316 Tryz.prog Tryz.Oa:= {
  mixed:=by kernel_rfl
  f316:=Tryz.func199.trans (congrArg some (by kernel_rfl))
  t0:=Tryz.underlying0
  a0:=Tryz.isAgg0
  z0:=Tryz.sizeOf0
  v0:=Tryz.zeroValue0
  t3:=Tryz.underlying3
  a3:=Tryz.isAgg3
  z3:=Tryz.sizeOf3
  v3:=Tryz.zeroValue3
  t4:=Tryz.underlying4
  a4:=Tryz.isAgg4
  z4:=Tryz.sizeOf4
  v4:=Tryz.zeroValue4
  t9:=Tryz.underlying9
  a9:=Tryz.isAgg9
  z9:=Tryz.sizeOf9
  v9:=Tryz.zeroValue9
  t37:=Tryz.underlying66
  a37:=Tryz.isAgg66
  z37:=Tryz.sizeOf66
  v37:=Tryz.zeroValue66
  t127:=Tryz.underlying222
  a127:=Tryz.isAgg222
  z127:=Tryz.sizeOf222
  v127:=Tryz.zeroValue222
  t5:=Tryz.underlying5
  a5:=Tryz.isAgg5
  z5:=Tryz.sizeOf5
  v5:=Tryz.zeroValue5
  i0:=by kernel_rfl
  i3:=by kernel_rfl
  i4:=by kernel_rfl
  i5:=by kernel_rfl
  i9:=by kernel_rfl
  i37:=by kernel_rfl
  i127:=by kernel_rfl }
open Go.RowKit in
theorem Tryz.stringslite_Clone (s:ByteArray) (w:World) (hlim:s.size<=281474976710656):
    Calls Tryz.prog 199 #[.string s] w fun e w'=>e= .returned (.string s)/\Below w.heap.size w w':=Any.stringslite_Clone Tryz.laysM316 s w hlim
def Tryz.Rk:Go.Shelf.Ren:=⟨fun | 212=>129 | 263=>158 | 264=>159 | n=>n,fun | 46=>182 | 51=>112 | 146=>218 | 53=>114 | 148=>220 | n=>n,fun | n=>n⟩
theorem Tryz.lays212:Go.Proofs.Lays.n212 Tryz.prog Tryz.Rk:= {
  mixed:=by kernel_rfl
  f212:=Tryz.func129.trans (congrArg some (by kernel_rfl))
  f263:=Tryz.func158.trans (congrArg some (by kernel_rfl))
  f264:=Tryz.func159.trans (congrArg some (by kernel_rfl))
  t46:=Tryz.underlying182
  a46:=Tryz.isAgg182
  z46:=Tryz.sizeOf182
  v46:=Tryz.zeroValue182
  t51:=Tryz.underlying112
  a51:=Tryz.isAgg112
  z51:=Tryz.sizeOf112
  v51:=Tryz.zeroValue112
  t53:=Tryz.underlying114
  a53:=Tryz.isAgg114
  z53:=Tryz.sizeOf114
  v53:=Tryz.zeroValue114
  t146:=Tryz.underlying218
  a146:=Tryz.isAgg218
  z146:=Tryz.sizeOf218
  v146:=Tryz.zeroValue218
  t148:=Tryz.underlying220
  a148:=Tryz.isAgg220
  z148:=Tryz.sizeOf220
  v148:=Tryz.zeroValue220 }
open Go.RowKit Go.Lib in
theorem Tryz.bits_Mul (x y:Nat) (hx:x<18446744073709551616) (hy:y<18446744073709551616) (w:World):
    Calls Tryz.prog 129 #[.int .u64 x,.int .u64 y] w fun e w'=>e= .returned (.tuple #[.int .u64 ((x*y/18446744073709551616:Nat):Int),.int .u64 ((x*y % 18446744073709551616:Nat):Int)])/\w'=w:=Any.bits_Mul Tryz.lays212 x y hx hy w
def Tryz.lays105_ren:Go.Shelf.Ren:=⟨fun | 105=>95 | 212=>129 | 99=>130 | 165=>131 | 166=>132 | 170=>133 | 169=>134 | 263=>158 | 264=>159 | 206=>160 | 240=>161 | 241=>162 | 276=>178 | 277=>179 | n=>n,fun | 9=>9 | 3=>3 | 4=>4 | 20=>20 | 0=>0 | 46=>182 | 109=>183 | 5=>5 | 72=>188 | 76=>191 | 51=>112 | 146=>218 | 53=>114 | 148=>220 | 70=>186 | 37=>66 | 75=>190 | 127=>222 | 164=>244 | 80=>44 | n=>n,fun | n=>n⟩
theorem Tryz.lays105:Go.Proofs.Lays.n105 Tryz.prog Tryz.lays105_ren:= {
  mixed:=by kernel_rfl
  f99:=Tryz.func130.trans (congrArg some (by kernel_rfl))
  f105:=Tryz.func95.trans (congrArg some (by kernel_rfl))
  f165:=Tryz.func131.trans (congrArg some (by kernel_rfl))
  f166:=Tryz.func132.trans (congrArg some (by kernel_rfl))
  f169:=Tryz.func134.trans (congrArg some (by kernel_rfl))
  f170:=Tryz.func133.trans (congrArg some (by kernel_rfl))
  f206:=Tryz.func160.trans (congrArg some (by kernel_rfl))
  f212:=Tryz.func129.trans (congrArg some (by kernel_rfl))
  f240:=Tryz.func161.trans (congrArg some (by kernel_rfl))
  f241:=Tryz.func162.trans (congrArg some (by kernel_rfl))
  f263:=Tryz.func158.trans (congrArg some (by kernel_rfl))
  f264:=Tryz.func159.trans (congrArg some (by kernel_rfl))
  f276:=Tryz.func178.trans (congrArg some (by kernel_rfl))
  f277:=Tryz.func179.trans (congrArg some (by kernel_rfl))
  t0:=Tryz.underlying0
  a0:=Tryz.isAgg0
  z0:=Tryz.sizeOf0
  v0:=Tryz.zeroValue0
  t3:=Tryz.underlying3
  a3:=Tryz.isAgg3
  z3:=Tryz.sizeOf3
  v3:=Tryz.zeroValue3
  t4:=Tryz.underlying4
  a4:=Tryz.isAgg4
  z4:=Tryz.sizeOf4
  v4:=Tryz.zeroValue4
  t5:=Tryz.underlying5
  a5:=Tryz.isAgg5
  z5:=Tryz.sizeOf5
  v5:=Tryz.zeroValue5
  t9:=Tryz.underlying9
  a9:=Tryz.isAgg9
  z9:=Tryz.sizeOf9
  v9:=Tryz.zeroValue9
  t20:=Tryz.underlying20
  a20:=Tryz.isAgg20
  z20:=Tryz.sizeOf20
  v20:=Tryz.zeroValue20
  t37:=Tryz.underlying66
  a37:=Tryz.isAgg66
  z37:=Tryz.sizeOf66
  v37:=Tryz.zeroValue66
  t46:=Tryz.underlying182
  a46:=Tryz.isAgg182
  z46:=Tryz.sizeOf182
  v46:=Tryz.zeroValue182
  t51:=Tryz.underlying112
  a51:=Tryz.isAgg112
  z51:=Tryz.sizeOf112
  v51:=Tryz.zeroValue112
  t53:=Tryz.underlying114
  a53:=Tryz.isAgg114
  z53:=Tryz.sizeOf114
  v53:=Tryz.zeroValue114
  t70:=Tryz.underlying186
  a70:=Tryz.isAgg186
  z70:=Tryz.sizeOf186
  v70:=Tryz.zeroValue186
  t72:=Tryz.underlying188
  a72:=Tryz.isAgg188
  z72:=Tryz.sizeOf188
  v72:=Tryz.zeroValue188
  t75:=Tryz.underlying190
  a75:=Tryz.isAgg190
  z75:=Tryz.sizeOf190
  v75:=Tryz.zeroValue190
  t76:=Tryz.underlying191
  a76:=Tryz.isAgg191
  z76:=Tryz.sizeOf191
  v76:=Tryz.zeroValue191
  t109:=Tryz.underlying183
  a109:=Tryz.isAgg183
  z109:=Tryz.sizeOf183
  v109:=Tryz.zeroValue183
  t127:=Tryz.underlying222
  a127:=Tryz.isAgg222
  z127:=Tryz.sizeOf222
  v127:=Tryz.zeroValue222
  t146:=Tryz.underlying218
  a146:=Tryz.isAgg218
  z146:=Tryz.sizeOf218
  v146:=Tryz.zeroValue218
  t148:=Tryz.underlying220
  a148:=Tryz.isAgg220
  z148:=Tryz.sizeOf220
  v148:=Tryz.zeroValue220
  t164:=Tryz.underlying244
  a164:=Tryz.isAgg244
  z164:=Tryz.sizeOf244
  v164:=Tryz.zeroValue244 }
theorem Tryz.Builder_Extra_105:Builder.Extra Tryz.prog Tryz.lays105_ren:= {
  sizeBuilder:=by kernel_rfl
  liesBuilder:=by kernel_rfl
  t5:=Tryz.underlying5
  a5:=Tryz.isAgg5
  z5:=Tryz.sizeOf5
  v5:=Tryz.zeroValue5
  infoByte:=by kernel_rfl
  cellsByte:=by kernel_rfl
  sizeByte:=by kernel_rfl
  neB5:=by decide }
open Go.RowKit Go.Lib in
theorem Tryz.strings_Repeat (s:ByteArray) (c:Nat) (w:World) (hc:c<=9223372036854775807) (hlen:s.size*c<=140737488355328):
    Calls Tryz.prog 95 #[.string s,.int .i64 c] w fun e w'=>e= .returned (.string ⟨(Lib.repeatL s.data.toList c).toArray⟩)/\Below w.heap.size w w':=Any.strings_Repeat Tryz.lays105 Tryz.Builder_Extra_105 s c w hc hlen
def Tryz.J6:Go.Shelf.Ren:=⟨fun | 16=>73 | n=>n,fun | 24=>35 | 9=>9 | 4=>4 | n=>n,fun | n=>n⟩
theorem Tryz.laysNm216:Go.Proofs.Lays2.n16 Tryz.prog Tryz.J6:= {
  mixed:=by kernel_rfl
  f16:=Tryz.func73.trans (congrArg some (by kernel_rfl))
  t4:=Tryz.underlying4
  a4:=Tryz.isAgg4
  z4:=Tryz.sizeOf4
  v4:=Tryz.zeroValue4
  t9:=Tryz.underlying9
  a9:=Tryz.isAgg9
  z9:=Tryz.sizeOf9
  v9:=Tryz.zeroValue9
  t24:=Tryz.underlying35
  a24:=Tryz.isAgg35
  z24:=Tryz.sizeOf35
  v24:=Tryz.zeroValue35
  i9:=by kernel_rfl }
open Go.RowKit Go.Lib in
theorem Tryz.slices_Clone_string (b off n c:Nat) (zs:List ByteArray) (w:World) (hz:n<=zs.length) (hbig:n*16<=140737488355328) (hc:∀ j,j<zs.length->w.cell? ⟨b,off+j,none⟩=some (.string (zs.getD j ByteArray.empty))):
    Calls Tryz.prog 73 #[.slice (some ⟨b,off,none⟩) n c] w fun e w'=>∃ v',e= .returned v'/\w'.ownsRow w.heap.size 9 1 v' n ((zs.take n).map (Value.string))/\v'≠ .slice none 0 0/\Below w.heap.size w w':=Any.slices_Clone_string Tryz.laysNm216 b off n c zs w hz hbig hc
open Go.RowKit Go.Lib in
theorem Tryz.slices_Clone_string_nil (n c:Nat) (w:World):
    Calls Tryz.prog 73 #[.slice none n c] w fun e w'=>e= .returned (.slice none 0 0)/\w'=w:=Any.slices_Clone_string_nil Tryz.laysNm216 n c w
end Go.Proofs
