/- PastThree holds: for every three texts the statement answers true. Part 18 of 25. -/
import Derived.Test.YthimblhfjfngiaaBThreeQ
import Derived.Shelf.SlGeneric
import Derived.Shelf.SlLaysF0
import Derived.Shelf.SlLaysH0
import Derived.Ground.SlsfProg
import Derived.Ground.SlgfProg
import Derived.Shelf.Strings.Builder1
import Derived.Shelf.Small.Bits
import Derived.Shelf.Small.Strs
import Derived.Shelf.Small.Wraps
import Derived.Shelf.Strings.BuilderF
import Derived.Shelf.Strings.BuilderK
import Derived.Shelf.Strconv.Itoa0
import Derived.Shelf.Strings.Search1
import Derived.Shelf.Strings.BuilderCap
import Derived.Ground.Names2Prog
import Derived.Shelf.Slices.SearchI
namespace Go.Proofs
open Go.Shelf
def Try.lays170_ren:Go.Shelf.Ren:=⟨fun|170=>47|n=>n,fun|70=>93|3=>3|0=>0|72=>96|37=>94|5=>5|n=>n,fun|n=>n⟩
theorem Try.lays170:Go.Proofs.Lays.n170 Try.prog Try.lays170_ren:={
  mixed:=by kernel_rfl
  f170:=Try.func47.trans (congrArg some (by kernel_rfl))
  t0:=Try.underlying0
  a0:=Try.isAgg0
  z0:=Try.sizeOf0
  v0:=Try.zeroValue0
  t3:=Try.underlying3
  a3:=Try.isAgg3
  z3:=Try.sizeOf3
  v3:=Try.zeroValue3
  t37:=Try.underlying94
  a37:=Try.isAgg94
  z37:=Try.sizeOf94
  v37:=Try.zeroValue94
  t70:=Try.underlying93
  a70:=Try.isAgg93
  z70:=Try.sizeOf93
  v70:=Try.zeroValue93
  t72:=Try.underlying96
  a72:=Try.isAgg96
  z72:=Try.sizeOf96
  v72:=Try.zeroValue96 }
def Try.lays169_ren:Go.Shelf.Ren:=⟨fun|169=>48|n=>n,fun|70=>93|9=>9|0=>0|72=>96|37=>94|127=>126|3=>3|5=>5|n=>n,fun|n=>n⟩
theorem Try.lays169:Go.Proofs.Lays.n169 Try.prog Try.lays169_ren:={
  mixed:=by kernel_rfl
  f169:=Try.func48.trans (congrArg some (by kernel_rfl))
  t0:=Try.underlying0
  a0:=Try.isAgg0
  z0:=Try.sizeOf0
  v0:=Try.zeroValue0
  t3:=Try.underlying3
  a3:=Try.isAgg3
  z3:=Try.sizeOf3
  v3:=Try.zeroValue3
  t9:=Try.underlying9
  a9:=Try.isAgg9
  z9:=Try.sizeOf9
  v9:=Try.zeroValue9
  t37:=Try.underlying94
  a37:=Try.isAgg94
  z37:=Try.sizeOf94
  v37:=Try.zeroValue94
  t70:=Try.underlying93
  a70:=Try.isAgg93
  z70:=Try.sizeOf93
  v70:=Try.zeroValue93
  t72:=Try.underlying96
  a72:=Try.isAgg96
  z72:=Try.sizeOf96
  v72:=Try.zeroValue96
  t127:=Try.underlying126
  a127:=Try.isAgg126
  z127:=Try.sizeOf126
  v127:=Try.zeroValue126 }
theorem Try.Builder_Extra_169:Builder.Extra Try.prog Try.lays169_ren:={
  sizeBuilder:=by kernel_rfl
  liesBuilder:=by kernel_rfl
  t5:=Try.underlying5
  a5:=Try.isAgg5
  z5:=Try.sizeOf5
  v5:=Try.zeroValue5
  infoByte:=by kernel_rfl
  cellsByte:=by kernel_rfl
  sizeByte:=by kernel_rfl
  neB5:=by decide }
def Try.lays128_ren:Go.Shelf.Ren:=⟨fun|128=>80|n=>n,fun|51=>140|3=>3|4=>4|46=>114|5=>5|9=>9|n=>n,fun|n=>n⟩
def Try.lays125_ren:Go.Shelf.Ren:=⟨fun|125=>58|128=>80|129=>81|n=>n,fun|46=>114|3=>3|51=>140|53=>142|4=>4|5=>5|9=>9|n=>n,fun|n=>n⟩
def Try.lays137_ren:Go.Shelf.Ren:=⟨fun|137=>89|217=>104|266=>109|n=>n,fun|9=>9|5=>5|3=>3|n=>n,fun|n=>n⟩
theorem Try.lays137:Go.Proofs.Lays.n137 Try.prog Try.lays137_ren:={
  mixed:=by kernel_rfl
  f137:=Try.func89.trans (congrArg some (by kernel_rfl))
  f217:=Try.func104.trans (congrArg some (by kernel_rfl))
  f266:=Try.func109.trans (congrArg some (by kernel_rfl))
  t3:=Try.underlying3
  a3:=Try.isAgg3
  z3:=Try.sizeOf3
  v3:=Try.zeroValue3
  t5:=Try.underlying5
  a5:=Try.isAgg5
  z5:=Try.sizeOf5
  v5:=Try.zeroValue5
  t9:=Try.underlying9
  a9:=Try.isAgg9
  z9:=Try.sizeOf9
  v9:=Try.zeroValue9 }
open Go.RowKit in
theorem Try.strings_IndexByte (s:ByteArray) (c:Int) (w:World) :
    Calls Try.prog 89 #[.string s,.int .u8 c] w fun e w'=>e=.returned (.int .i64 (Lib.indexByte s.data.toList c.toNat.toUInt8))∧w'=w:=Any.strings_IndexByte Try.lays137 s c w
def Try.lays215_ren:Go.Shelf.Ren:=⟨fun|215=>103|n=>n,fun|3=>3|4=>4|n=>n,fun|n=>n⟩
theorem Try.lays215:Go.Proofs.Lays.n215 Try.prog Try.lays215_ren:={
  mixed:=by kernel_rfl
  f215:=Try.func103.trans (congrArg some (by kernel_rfl))
  t3:=Try.underlying3
  a3:=Try.isAgg3
  z3:=Try.sizeOf3
  v3:=Try.zeroValue3
  t4:=Try.underlying4
  a4:=Try.isAgg4
  z4:=Try.sizeOf4
  v4:=Try.zeroValue4 }
open Go.RowKit in
theorem Try.cmp_isNaN_int (x:Int) (w:World) :
    Calls Try.prog 103 #[.int .i64 x] w fun e w'=>e=.returned (.bool false)∧w'=w:=Any.cmp_isNaN_int Try.lays215 x w
def Try.lays122_ren:Go.Shelf.Ren:=⟨fun|122=>85|215=>103|n=>n,fun|3=>3|4=>4|n=>n,fun|n=>n⟩
theorem Try.lays122:Go.Proofs.Lays.n122 Try.prog Try.lays122_ren:={
  mixed:=by kernel_rfl
  f122:=Try.func85.trans (congrArg some (by kernel_rfl))
  f215:=Try.func103.trans (congrArg some (by kernel_rfl))
  t3:=Try.underlying3
  a3:=Try.isAgg3
  z3:=Try.sizeOf3
  v3:=Try.zeroValue3
  t4:=Try.underlying4
  a4:=Try.isAgg4
  z4:=Try.sizeOf4
  v4:=Try.zeroValue4 }
open Go.RowKit in
theorem Try.cmp_Compare_int (x y:Int) (w:World) :
    Calls Try.prog 85 #[.int .i64 x,.int .i64 y] w fun e w'=>e=.returned (.int .i64 (Lib.compareInt x y))∧w'=w:=Any.cmp_Compare_int Try.lays122 x y w
open Go.RowKit in
theorem Try.Builder_Len_f (B b:Nat) (bs:List Value) (w:World) (h:Lib.IsBuilderF 96 5 B b bs w) :
    Calls Try.prog 47 #[.pointer (some ⟨b,0,none⟩)] w fun e w'=>e=.returned (.int .i64 bs.length)∧w'=w:=Any.Builder_Len_f Try.lays170 B b bs w h
open Go.RowKit in
theorem Try.Builder_String_any_k (B b:Nat) (l:List UInt8) (w:World) (h:Lib.IsBuilderF 96 5 B b (Lib.byteCells l) w) (hBw:B≤w.heap.size) :
    Calls Try.prog 48 #[.pointer (some ⟨b,0,none⟩)] w fun e w'=>e=.returned (.string ⟨l.toArray⟩)∧(Lib.IsBuilderF 96 5 B b (Lib.byteCells l) w'∧Below B w w'∧Lib.OthersKept 5 (some b) w w'):=Any.Builder_String_any_k Try.lays169 Try.Builder_Extra_169 B b l w h hBw
def Try.lays129_ren:Go.Shelf.Ren:=⟨fun|129=>81|n=>n,fun|53=>142|3=>3|4=>4|46=>114|5=>5|9=>9|n=>n,fun|n=>n⟩
def Try.lays217_ren:Go.Shelf.Ren:=⟨fun|217=>104|266=>109|n=>n,fun|9=>9|5=>5|3=>3|n=>n,fun|n=>n⟩
def Try.laysNm237_ren:Go.Shelf.Ren:=⟨fun|37=>103|n=>n,fun|3=>3|4=>4|n=>n,fun|n=>n⟩
def Try.sortEd_ren:Go.Shelf.Ren:=⟨fun|6=>65|15=>58|14=>83|28=>80|29=>81|20=>95|21=>96|22=>97|23=>98|24=>99|25=>100|26=>101|27=>102|46=>106|47=>91|48=>92|49=>107|50=>108|57=>110|n=>n,fun|22=>55|24=>59|25=>125|3=>3|39=>114|0=>0|53=>140|55=>142|4=>4|46=>133|45=>132|50=>137|5=>5|9=>9|66=>150|70=>154|76=>161|77=>162|n=>n,fun|n=>n⟩
theorem Try.sortEd:Go.Proofs.SlLaysF0.n6 Try.prog Try.sortEd_ren:={
  mixed:=by kernel_rfl
  f6:=⟨Try.f65.name,by decide,Try.func65.trans (congrArg some (by kernel_rfl))⟩
  f14:=⟨Try.f83.name,by decide,Try.func83.trans (congrArg some (by kernel_rfl))⟩
  f15:=Try.func58.trans (congrArg some (by kernel_rfl))
  f20:=⟨Try.f95.name,by decide,Try.func95.trans (congrArg some (by kernel_rfl))⟩
  f21:=⟨Try.f96.name,by decide,Try.func96.trans (congrArg some (by kernel_rfl))⟩
  f22:=⟨Try.f97.name,by decide,Try.func97.trans (congrArg some (by kernel_rfl))⟩
  f23:=⟨Try.f98.name,by decide,Try.func98.trans (congrArg some (by kernel_rfl))⟩
  f24:=⟨Try.f99.name,by decide,Try.func99.trans (congrArg some (by kernel_rfl))⟩
  f25:=⟨Try.f100.name,by decide,Try.func100.trans (congrArg some (by kernel_rfl))⟩
  f26:=⟨Try.f101.name,by decide,Try.func101.trans (congrArg some (by kernel_rfl))⟩
  f27:=⟨Try.f102.name,by decide,Try.func102.trans (congrArg some (by kernel_rfl))⟩
  f28:=Try.func80.trans (congrArg some (by kernel_rfl))
  f29:=Try.func81.trans (congrArg some (by kernel_rfl))
  f46:=⟨Try.f106.name,by decide,Try.func106.trans (congrArg some (by kernel_rfl))⟩
  f47:=Try.func91.trans (congrArg some (by kernel_rfl))
  f48:=Try.func92.trans (congrArg some (by kernel_rfl))
  f49:=⟨Try.f107.name,by decide,Try.func107.trans (congrArg some (by kernel_rfl))⟩
  f50:=⟨Try.f108.name,by decide,Try.func108.trans (congrArg some (by kernel_rfl))⟩
  f57:=⟨Try.f110.name,by decide,Try.func110.trans (congrArg some (by kernel_rfl))⟩
  t0:=Try.underlying0
  a0:=Try.isAgg0
  z0:=Try.sizeOf0
  v0:=Try.zeroValue0
  t3:=Try.underlying3
  a3:=Try.isAgg3
  z3:=Try.sizeOf3
  v3:=Try.zeroValue3
  t4:=Try.underlying4
  a4:=Try.isAgg4
  z4:=Try.sizeOf4
  v4:=Try.zeroValue4
  t5:=Try.underlying5
  a5:=Try.isAgg5
  z5:=Try.sizeOf5
  v5:=Try.zeroValue5
  t9:=Try.underlying9
  a9:=Try.isAgg9
  z9:=Try.sizeOf9
  v9:=Try.zeroValue9
  t22:=Try.underlying55
  a22:=Try.isAgg55
  z22:=Try.sizeOf55
  v22:=Try.zeroValue55
  t25:=Try.underlying125
  a25:=Try.isAgg125
  z25:=Try.sizeOf125
  v25:=Try.zeroValue125
  t39:=Try.underlying114
  a39:=Try.isAgg114
  z39:=Try.sizeOf114
  v39:=Try.zeroValue114
  t45:=Try.underlying132
  a45:=Try.isAgg132
  z45:=Try.sizeOf132
  v45:=Try.zeroValue132
  t46:=Try.underlying133
  a46:=Try.isAgg133
  z46:=Try.sizeOf133
  v46:=Try.zeroValue133
  t50:=Try.underlying137
  a50:=Try.isAgg137
  z50:=Try.sizeOf137
  v50:=Try.zeroValue137
  t53:=Try.underlying140
  a53:=Try.isAgg140
  z53:=Try.sizeOf140
  v53:=Try.zeroValue140
  t55:=Try.underlying142
  a55:=Try.isAgg142
  z55:=Try.sizeOf142
  v55:=Try.zeroValue142
  t66:=Try.underlying150
  a66:=Try.isAgg150
  z66:=Try.sizeOf150
  v66:=Try.zeroValue150
  t70:=Try.underlying154
  a70:=Try.isAgg154
  z70:=Try.sizeOf154
  v70:=Try.zeroValue154
  t76:=Try.underlying161
  a76:=Try.isAgg161
  z76:=Try.sizeOf161
  v76:=Try.zeroValue161
  t77:=Try.underlying162
  a77:=Try.isAgg162
  z77:=Try.sizeOf162
  v77:=Try.zeroValue162 }
def Try.containsEd_ren:Go.Shelf.Ren:=⟨fun|8=>24|6=>42|n=>n,fun|22=>55|23=>59|25=>62|4=>4|3=>3|0=>0|n=>n,fun|n=>n⟩
theorem Try.containsEd:Go.Proofs.SlLaysH0.n8 Try.prog Try.containsEd_ren:={
  mixed:=by kernel_rfl
  f6:=⟨Try.f42.name,by decide,Try.func42.trans (congrArg some (by kernel_rfl))⟩
  f8:=⟨Try.f24.name,by decide,Try.func24.trans (congrArg some (by kernel_rfl))⟩
  t0:=Try.underlying0
  a0:=Try.isAgg0
  z0:=Try.sizeOf0
  v0:=Try.zeroValue0
  t3:=Try.underlying3
  a3:=Try.isAgg3
  z3:=Try.sizeOf3
  v3:=Try.zeroValue3
  t4:=Try.underlying4
  a4:=Try.isAgg4
  z4:=Try.sizeOf4
  v4:=Try.zeroValue4
  t22:=Try.underlying55
  a22:=Try.isAgg55
  z22:=Try.sizeOf55
  v22:=Try.zeroValue55
  t25:=Try.underlying62
  a25:=Try.isAgg62
  z25:=Try.sizeOf62
  v25:=Try.zeroValue62 }
def Try.sortFi_ren:Go.Shelf.Ren:=⟨fun|6=>38|15=>58|14=>57|28=>80|29=>81|20=>72|21=>73|22=>74|23=>75|24=>76|25=>77|26=>78|27=>79|46=>90|47=>91|48=>92|49=>93|50=>94|57=>105|n=>n,fun|22=>46|24=>53|25=>87|3=>3|39=>114|0=>0|53=>140|55=>142|4=>4|46=>133|45=>132|50=>137|5=>5|9=>9|66=>150|70=>154|76=>161|77=>162|n=>n,fun|n=>n⟩
theorem Try.sortFi:Go.Proofs.SlLaysF0.n6 Try.prog Try.sortFi_ren:={
  mixed:=by kernel_rfl
  f6:=⟨Try.f38.name,by decide,Try.func38.trans (congrArg some (by kernel_rfl))⟩
  f14:=⟨Try.f57.name,by decide,Try.func57.trans (congrArg some (by kernel_rfl))⟩
  f15:=Try.func58.trans (congrArg some (by kernel_rfl))
  f20:=⟨Try.f72.name,by decide,Try.func72.trans (congrArg some (by kernel_rfl))⟩
  f21:=⟨Try.f73.name,by decide,Try.func73.trans (congrArg some (by kernel_rfl))⟩
  f22:=⟨Try.f74.name,by decide,Try.func74.trans (congrArg some (by kernel_rfl))⟩
  f23:=⟨Try.f75.name,by decide,Try.func75.trans (congrArg some (by kernel_rfl))⟩
  f24:=⟨Try.f76.name,by decide,Try.func76.trans (congrArg some (by kernel_rfl))⟩
  f25:=⟨Try.f77.name,by decide,Try.func77.trans (congrArg some (by kernel_rfl))⟩
  f26:=⟨Try.f78.name,by decide,Try.func78.trans (congrArg some (by kernel_rfl))⟩
  f27:=⟨Try.f79.name,by decide,Try.func79.trans (congrArg some (by kernel_rfl))⟩
  f28:=Try.func80.trans (congrArg some (by kernel_rfl))
  f29:=Try.func81.trans (congrArg some (by kernel_rfl))
  f46:=⟨Try.f90.name,by decide,Try.func90.trans (congrArg some (by kernel_rfl))⟩
  f47:=Try.func91.trans (congrArg some (by kernel_rfl))
  f48:=Try.func92.trans (congrArg some (by kernel_rfl))
  f49:=⟨Try.f93.name,by decide,Try.func93.trans (congrArg some (by kernel_rfl))⟩
  f50:=⟨Try.f94.name,by decide,Try.func94.trans (congrArg some (by kernel_rfl))⟩
  f57:=⟨Try.f105.name,by decide,Try.func105.trans (congrArg some (by kernel_rfl))⟩
  t0:=Try.underlying0
  a0:=Try.isAgg0
  z0:=Try.sizeOf0
  v0:=Try.zeroValue0
  t3:=Try.underlying3
  a3:=Try.isAgg3
  z3:=Try.sizeOf3
  v3:=Try.zeroValue3
  t4:=Try.underlying4
  a4:=Try.isAgg4
  z4:=Try.sizeOf4
  v4:=Try.zeroValue4
  t5:=Try.underlying5
  a5:=Try.isAgg5
  z5:=Try.sizeOf5
  v5:=Try.zeroValue5
  t9:=Try.underlying9
  a9:=Try.isAgg9
  z9:=Try.sizeOf9
  v9:=Try.zeroValue9
  t22:=Try.underlying46
  a22:=Try.isAgg46
  z22:=Try.sizeOf46
  v22:=Try.zeroValue46
  t25:=Try.underlying87
  a25:=Try.isAgg87
  z25:=Try.sizeOf87
  v25:=Try.zeroValue87
  t39:=Try.underlying114
  a39:=Try.isAgg114
  z39:=Try.sizeOf114
  v39:=Try.zeroValue114
  t45:=Try.underlying132
  a45:=Try.isAgg132
  z45:=Try.sizeOf132
  v45:=Try.zeroValue132
  t46:=Try.underlying133
  a46:=Try.isAgg133
  z46:=Try.sizeOf133
  v46:=Try.zeroValue133
  t50:=Try.underlying137
  a50:=Try.isAgg137
  z50:=Try.sizeOf137
  v50:=Try.zeroValue137
  t53:=Try.underlying140
  a53:=Try.isAgg140
  z53:=Try.sizeOf140
  v53:=Try.zeroValue140
  t55:=Try.underlying142
  a55:=Try.isAgg142
  z55:=Try.sizeOf142
  v55:=Try.zeroValue142
  t66:=Try.underlying150
  a66:=Try.isAgg150
  z66:=Try.sizeOf150
  v66:=Try.zeroValue150
  t70:=Try.underlying154
  a70:=Try.isAgg154
  z70:=Try.sizeOf154
  v70:=Try.zeroValue154
  t76:=Try.underlying161
  a76:=Try.isAgg161
  z76:=Try.sizeOf161
  v76:=Try.zeroValue161
  t77:=Try.underlying162
  a77:=Try.isAgg162
  z77:=Try.sizeOf162
  v77:=Try.zeroValue162 }
def Try.indexFi_ren:Go.Shelf.Ren:=⟨fun|6=>53|n=>n,fun|22=>46|23=>53|25=>110|3=>3|0=>0|4=>4|n=>n,fun|n=>n⟩
theorem Try.indexFi:Go.Proofs.SlLaysH0.n6 Try.prog Try.indexFi_ren:={
  mixed:=by kernel_rfl
  f6:=⟨Try.f53.name,by decide,Try.func53.trans (congrArg some (by kernel_rfl))⟩
  t0:=Try.underlying0
  a0:=Try.isAgg0
  z0:=Try.sizeOf0
  v0:=Try.zeroValue0
  t3:=Try.underlying3
  a3:=Try.isAgg3
  z3:=Try.sizeOf3
  v3:=Try.zeroValue3
  t4:=Try.underlying4
  a4:=Try.isAgg4
  z4:=Try.sizeOf4
  v4:=Try.zeroValue4
  t22:=Try.underlying46
  a22:=Try.isAgg46
  z22:=Try.sizeOf46
  v22:=Try.zeroValue46
  t25:=Try.underlying110
  a25:=Try.isAgg110
  z25:=Try.sizeOf110
  v25:=Try.zeroValue110 }
end Go.Proofs

namespace Go.Proofs
open Go.Shelf
def Try.lays240_ren:Go.Shelf.Ren:=⟨fun|166=>46|240=>68|276=>86|n=>n,fun|0=>0|3=>3|4=>4|5=>5|9=>9|20=>20|37=>94|70=>93|72=>96|75=>98|80=>102|164=>147|n=>n,fun|n=>n⟩
theorem Try.lays240:Go.Proofs.Lays.n240 Try.prog Try.lays240_ren:={
  mixed:=by kernel_rfl
  f240:=Try.func68.trans (congrArg some (by kernel_rfl))
  f276:=Try.func86.trans (congrArg some (by kernel_rfl))
  t0:=Try.underlying0
  a0:=Try.isAgg0
  z0:=Try.sizeOf0
  v0:=Try.zeroValue0
  t4:=Try.underlying4
  a4:=Try.isAgg4
  z4:=Try.sizeOf4
  v4:=Try.zeroValue4
  t9:=Try.underlying9
  a9:=Try.isAgg9
  z9:=Try.sizeOf9
  v9:=Try.zeroValue9
  t20:=Try.underlying20
  a20:=Try.isAgg20
  z20:=Try.sizeOf20
  v20:=Try.zeroValue20
  t70:=Try.underlying93
  a70:=Try.isAgg93
  z70:=Try.sizeOf93
  v70:=Try.zeroValue93
  t72:=Try.underlying96
  a72:=Try.isAgg96
  z72:=Try.sizeOf96
  v72:=Try.zeroValue96
  t164:=Try.underlying147
  a164:=Try.isAgg147
  z164:=Try.sizeOf147
  v164:=Try.zeroValue147 }
def Try.lays166_ren:Go.Shelf.Ren:=⟨fun|166=>46|240=>68|276=>86|n=>n,fun|0=>0|3=>3|4=>4|5=>5|9=>9|20=>20|37=>94|70=>93|72=>96|75=>98|80=>102|164=>147|n=>n,fun|n=>n⟩
theorem Try.lays166:Go.Proofs.Lays.n166 Try.prog Try.lays166_ren:={
  mixed:=by kernel_rfl
  f166:=Try.func46.trans (congrArg some (by kernel_rfl))
  f240:=Try.func68.trans (congrArg some (by kernel_rfl))
  f276:=Try.func86.trans (congrArg some (by kernel_rfl))
  t0:=Try.underlying0
  a0:=Try.isAgg0
  z0:=Try.sizeOf0
  v0:=Try.zeroValue0
  t3:=Try.underlying3
  a3:=Try.isAgg3
  z3:=Try.sizeOf3
  v3:=Try.zeroValue3
  t4:=Try.underlying4
  a4:=Try.isAgg4
  z4:=Try.sizeOf4
  v4:=Try.zeroValue4
  t9:=Try.underlying9
  a9:=Try.isAgg9
  z9:=Try.sizeOf9
  v9:=Try.zeroValue9
  t20:=Try.underlying20
  a20:=Try.isAgg20
  z20:=Try.sizeOf20
  v20:=Try.zeroValue20
  t37:=Try.underlying94
  a37:=Try.isAgg94
  z37:=Try.sizeOf94
  v37:=Try.zeroValue94
  t70:=Try.underlying93
  a70:=Try.isAgg93
  z70:=Try.sizeOf93
  v70:=Try.zeroValue93
  t72:=Try.underlying96
  a72:=Try.isAgg96
  z72:=Try.sizeOf96
  v72:=Try.zeroValue96
  t75:=Try.underlying98
  a75:=Try.isAgg98
  z75:=Try.sizeOf98
  v75:=Try.zeroValue98
  t164:=Try.underlying147
  a164:=Try.isAgg147
  z164:=Try.sizeOf147
  v164:=Try.zeroValue147 }
theorem Try.Builder_Extra_166:Builder.Extra Try.prog Try.lays166_ren:={
  sizeBuilder:=by kernel_rfl
  liesBuilder:=by kernel_rfl
  t5:=Try.underlying5
  a5:=Try.isAgg5
  z5:=Try.sizeOf5
  v5:=Try.zeroValue5
  infoByte:=by kernel_rfl
  cellsByte:=by kernel_rfl
  sizeByte:=by kernel_rfl
  neB5:=by decide }
open Go.RowKit in
theorem Try.Builder_WriteString_k (B b:Nat) (bs:List Value) (s:ByteArray) (w:World) (h:Lib.IsBuilderF 96 5 B b bs w) (hlen:bs.length+s.size≤140737488355328) (hBw:B≤w.heap.size) :
    Calls Try.prog 46 #[.pointer (some ⟨b,0,none⟩),.string s] w fun e w'=>e=.returned (.tuple #[.int .i64 s.size,.nilIface])∧(Lib.BuilderAtF 96 5 B b (.pointer (some ⟨b,0,none⟩)) (bs++Lib.strCells s) w'∧Below B w w'∧Lib.OthersKept 5 (some b) w w'):=Any.Builder_WriteString_k Try.lays166 Try.Builder_Extra_166 B b bs s w h hlen hBw
open Go.RowKit in
theorem Try.Builder_WriteString (B b:Nat) (bs:List Value) (s:ByteArray) (w:World) (h:Lib.IsBuilder 96 5 B b bs w) (hlen:bs.length+s.size≤140737488355328) (hBw:B≤w.heap.size) :
    Calls Try.prog 46 #[.pointer (some ⟨b,0,none⟩),.string s] w fun e w'=>e=.returned (.tuple #[.int .i64 s.size,.nilIface])∧(Lib.BuilderAt 96 5 B b (.pointer (some ⟨b,0,none⟩)) (bs++Lib.strCells s) w'∧Below B w w'):=Any.Builder_WriteString Try.lays166 Try.Builder_Extra_166 B b bs s w h hlen hBw
end Go.Proofs

