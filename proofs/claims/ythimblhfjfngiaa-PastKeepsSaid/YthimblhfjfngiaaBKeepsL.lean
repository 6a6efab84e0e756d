/- PastKeeps holds: for all steps and every file's name the statement answers true. Part 12 of 20. -/
import Derived.Test.YthimblhfjfngiaaBKeepsK
import Derived.Shelf.SlGeneric
import Derived.Shelf.SlLaysF0
import Derived.Shelf.SlLaysH0
import Derived.Ground.SlsfProg
import Derived.Ground.SlgfProg
import Derived.Shelf.Strings.Builder1
import Derived.Shelf.Small.Bits
import Derived.Shelf.Small.Strs
import Derived.Shelf.Small.Wraps
import Derived.Shelf.Strings.BuilderF
import Derived.Shelf.Strings.BuilderK
import Derived.Shelf.Strconv.Itoa0
import Derived.Shelf.Strings.Search1
import Derived.Ground.Names2Prog
import Derived.Shelf.Slices.SearchI
import Derived.Shelf.SlSortCmp.NoneTotal
import Derived.Shelf.SlicesQ.IndexFunc
namespace Go.Proofs
open Go.Shelf
def Try.lays170_ren : Go.Shelf.Ren := ⟨fun | 170 => 47 | n => n, fun | 70 => 93 | 3 => 3 | 0 => 0 | 72 => 96 | 37 => 94 | 5 => 5 | n => n, fun | n => n⟩
theorem Try.lays170 : Go.Proofs.Lays.n170 Try.prog Try.lays170_ren := {
  mixed := by kernel_rfl
  f170 := Try.func47.trans (congrArg some (by kernel_rfl))
  t0 := Try.underlying0
  a0 := Try.isAgg0
  z0 := Try.sizeOf0
  v0 := Try.zeroValue0
  t3 := Try.underlying3
  a3 := Try.isAgg3
  z3 := Try.sizeOf3
  v3 := Try.zeroValue3
  t37 := Try.underlying94
  a37 := Try.isAgg94
  z37 := Try.sizeOf94
  v37 := Try.zeroValue94
  t70 := Try.underlying93
  a70 := Try.isAgg93
  z70 := Try.sizeOf93
  v70 := Try.zeroValue93
  t72 := Try.underlying96
  a72 := Try.isAgg96
  z72 := Try.sizeOf96
  v72 := Try.zeroValue96 }
def Try.lays169_ren : Go.Shelf.Ren := ⟨fun | 169 => 48 | n => n, fun | 70 => 93 | 9 => 9 | 0 => 0 | 72 => 96 | 37 => 94 | 127 => 126 | 3 => 3 | 5 => 5 | n => n, fun | n => n⟩
theorem Try.lays169 : Go.Proofs.Lays.n169 Try.prog Try.lays169_ren := {
  mixed := by kernel_rfl
  f169 := Try.func48.trans (congrArg some (by kernel_rfl))
  t0 := Try.underlying0
  a0 := Try.isAgg0
  z0 := Try.sizeOf0
  v0 := Try.zeroValue0
  t3 := Try.underlying3
  a3 := Try.isAgg3
  z3 := Try.sizeOf3
  v3 := Try.zeroValue3
  t9 := Try.underlying9
  a9 := Try.isAgg9
  z9 := Try.sizeOf9
  v9 := Try.zeroValue9
  t37 := Try.underlying94
  a37 := Try.isAgg94
  z37 := Try.sizeOf94
  v37 := Try.zeroValue94
  t70 := Try.underlying93
  a70 := Try.isAgg93
  z70 := Try.sizeOf93
  v70 := Try.zeroValue93
  t72 := Try.underlying96
  a72 := Try.isAgg96
  z72 := Try.sizeOf96
  v72 := Try.zeroValue96
  t127 := Try.underlying126
  a127 := Try.isAgg126
  z127 := Try.sizeOf126
  v127 := Try.zeroValue126 }
theorem Try.Builder_Extra_169 : Builder.Extra Try.prog Try.lays169_ren := {
  sizeBuilder := by kernel_rfl
  liesBuilder := by kernel_rfl
  t5 := Try.underlying5
  a5 := Try.isAgg5
  z5 := Try.sizeOf5
  v5 := Try.zeroValue5
  infoByte := by kernel_rfl
  cellsByte := by kernel_rfl
  sizeByte := by kernel_rfl
  neB5 := by decide }
def Try.lays137_ren : Go.Shelf.Ren := ⟨fun | 137 => 89 | 217 => 104 | 266 => 109 | n => n, fun | 9 => 9 | 5 => 5 | 3 => 3 | n => n, fun | n => n⟩
theorem Try.lays137 : Go.Proofs.Lays.n137 Try.prog Try.lays137_ren := {
  mixed := by kernel_rfl
  f137 := Try.func89.trans (congrArg some (by kernel_rfl))
  f217 := Try.func104.trans (congrArg some (by kernel_rfl))
  f266 := Try.func109.trans (congrArg some (by kernel_rfl))
  t3 := Try.underlying3
  a3 := Try.isAgg3
  z3 := Try.sizeOf3
  v3 := Try.zeroValue3
  t5 := Try.underlying5
  a5 := Try.isAgg5
  z5 := Try.sizeOf5
  v5 := Try.zeroValue5
  t9 := Try.underlying9
  a9 := Try.isAgg9
  z9 := Try.sizeOf9
  v9 := Try.zeroValue9 }
open Go.RowKit in
theorem Try.strings_IndexByte (s : ByteArray) (c : Int) (w : World) :
    Calls Try.prog 89 #[.string s, .int .u8 c] w fun e w' => e = .returned (.int .i64 (Lib.indexByte s.data.toList c.toNat.toUInt8)) ∧ w' = w := Any.strings_IndexByte Try.lays137 s c w
def Try.lays215_ren : Go.Shelf.Ren := ⟨fun | 215 => 103 | n => n, fun | 3 => 3 | 4 => 4 | n => n, fun | n => n⟩
theorem Try.lays215 : Go.Proofs.Lays.n215 Try.prog Try.lays215_ren := {
  mixed := by kernel_rfl
  f215 := Try.func103.trans (congrArg some (by kernel_rfl))
  t3 := Try.underlying3
  a3 := Try.isAgg3
  z3 := Try.sizeOf3
  v3 := Try.zeroValue3
  t4 := Try.underlying4
  a4 := Try.isAgg4
  z4 := Try.sizeOf4
  v4 := Try.zeroValue4 }
open Go.RowKit in
theorem Try.cmp_isNaN_int (x : Int) (w : World) :
    Calls Try.prog 103 #[.int .i64 x] w fun e w' => e = .returned (.bool false) ∧ w' = w := Any.cmp_isNaN_int Try.lays215 x w
def Try.lays122_ren : Go.Shelf.Ren := ⟨fun | 122 => 85 | 215 => 103 | n => n, fun | 3 => 3 | 4 => 4 | n => n, fun | n => n⟩
theorem Try.lays122 : Go.Proofs.Lays.n122 Try.prog Try.lays122_ren := {
  mixed := by kernel_rfl
  f122 := Try.func85.trans (congrArg some (by kernel_rfl))
  f215 := Try.func103.trans (congrArg some (by kernel_rfl))
  t3 := Try.underlying3
  a3 := Try.isAgg3
  z3 := Try.sizeOf3
  v3 := Try.zeroValue3
  t4 := Try.underlying4
  a4 := Try.isAgg4
  z4 := Try.sizeOf4
  v4 := Try.zeroValue4 }
open Go.RowKit in
theorem Try.cmp_Compare_int (x y : Int) (w : World) :
    Calls Try.prog 85 #[.int .i64 x, .int .i64 y] w fun e w' => e = .returned (.int .i64 (Lib.compareInt x y)) ∧ w' = w := Any.cmp_Compare_int Try.lays122 x y w
open Go.RowKit in
theorem Try.Builder_Len_f (B b : Nat) (bs : List Value) (w : World) (h : Lib.IsBuilderF 96 5 B b bs w) :
    Calls Try.prog 47 #[.pointer (some ⟨b, 0, none⟩)] w fun e w' => e = .returned (.int .i64 bs.length) ∧ w' = w := Any.Builder_Len_f Try.lays170 B b bs w h
open Go.RowKit in
theorem Try.Builder_String_any_k (B b : Nat) (l : List UInt8) (w : World) (h : Lib.IsBuilderF 96 5 B b (Lib.byteCells l) w) (hBw : B ≤ w.heap.size) :
    Calls Try.prog 48 #[.pointer (some ⟨b, 0, none⟩)] w fun e w' => e = .returned (.string ⟨l.toArray⟩) ∧ (Lib.IsBuilderF 96 5 B b (Lib.byteCells l) w' ∧ Below B w w' ∧ Lib.OthersKept 5 (some b) w w') := Any.Builder_String_any_k Try.lays169 Try.Builder_Extra_169 B b l w h hBw
def Try.sortEd_ren : Go.Shelf.Ren := ⟨fun | 6 => 65 | 15 => 58 | 14 => 83 | 28 => 80 | 29 => 81 | 20 => 95 | 21 => 96 | 22 => 97 | 23 => 98 | 24 => 99 | 25 => 100 | 26 => 101 | 27 => 102 | 46 => 106 | 47 => 91 | 48 => 92 | 49 => 107 | 50 => 108 | 57 => 110 | n => n, fun | 22 => 55 | 24 => 59 | 25 => 125 | 3 => 3 | 39 => 114 | 0 => 0 | 53 => 140 | 55 => 142 | 4 => 4 | 46 => 133 | 45 => 132 | 50 => 137 | 5 => 5 | 9 => 9 | 66 => 150 | 70 => 154 | 76 => 161 | 77 => 162 | n => n, fun | n => n⟩
theorem Try.sortEd : Go.Proofs.SlLaysF0.n6 Try.prog Try.sortEd_ren := {
  mixed := by kernel_rfl
  f6 := ⟨Try.f65.name, by decide, Try.func65.trans (congrArg some (by kernel_rfl))⟩
  f14 := ⟨Try.f83.name, by decide, Try.func83.trans (congrArg some (by kernel_rfl))⟩
  f15 := Try.func58.trans (congrArg some (by kernel_rfl))
  f20 := ⟨Try.f95.name, by decide, Try.func95.trans (congrArg some (by kernel_rfl))⟩
  f21 := ⟨Try.f96.name, by decide, Try.func96.trans (congrArg some (by kernel_rfl))⟩
  f22 := ⟨Try.f97.name, by decide, Try.func97.trans (congrArg some (by kernel_rfl))⟩
  f23 := ⟨Try.f98.name, by decide, Try.func98.trans (congrArg some (by kernel_rfl))⟩
  f24 := ⟨Try.f99.name, by decide, Try.func99.trans (congrArg some (by kernel_rfl))⟩
  f25 := ⟨Try.f100.name, by decide, Try.func100.trans (congrArg some (by kernel_rfl))⟩
  f26 := ⟨Try.f101.name, by decide, Try.func101.trans (congrArg some (by kernel_rfl))⟩
  f27 := ⟨Try.f102.name, by decide, Try.func102.trans (congrArg some (by kernel_rfl))⟩
  f28 := Try.func80.trans (congrArg some (by kernel_rfl))
  f29 := Try.func81.trans (congrArg some (by kernel_rfl))
  f46 := ⟨Try.f106.name, by decide, Try.func106.trans (congrArg some (by kernel_rfl))⟩
  f47 := Try.func91.trans (congrArg some (by kernel_rfl))
  f48 := Try.func92.trans (congrArg some (by kernel_rfl))
  f49 := ⟨Try.f107.name, by decide, Try.func107.trans (congrArg some (by kernel_rfl))⟩
  f50 := ⟨Try.f108.name, by decide, Try.func108.trans (congrArg some (by kernel_rfl))⟩
  f57 := ⟨Try.f110.name, by decide, Try.func110.trans (congrArg some (by kernel_rfl))⟩
  t0 := Try.underlying0
  a0 := Try.isAgg0
  z0 := Try.sizeOf0
  v0 := Try.zeroValue0
  t3 := Try.underlying3
  a3 := Try.isAgg3
  z3 := Try.sizeOf3
  v3 := Try.zeroValue3
  t4 := Try.underlying4
  a4 := Try.isAgg4
  z4 := Try.sizeOf4
  v4 := Try.zeroValue4
  t5 := Try.underlying5
  a5 := Try.isAgg5
  z5 := Try.sizeOf5
  v5 := Try.zeroValue5
  t9 := Try.underlying9
  a9 := Try.isAgg9
  z9 := Try.sizeOf9
  v9 := Try.zeroValue9
  t22 := Try.underlying55
  a22 := Try.isAgg55
  z22 := Try.sizeOf55
  v22 := Try.zeroValue55
  t25 := Try.underlying125
  a25 := Try.isAgg125
  z25 := Try.sizeOf125
  v25 := Try.zeroValue125
  t39 := Try.underlying114
  a39 := Try.isAgg114
  z39 := Try.sizeOf114
  v39 := Try.zeroValue114
  t45 := Try.underlying132
  a45 := Try.isAgg132
  z45 := Try.sizeOf132
  v45 := Try.zeroValue132
  t46 := Try.underlying133
  a46 := Try.isAgg133
  z46 := Try.sizeOf133
  v46 := Try.zeroValue133
  t50 := Try.underlying137
  a50 := Try.isAgg137
  z50 := Try.sizeOf137
  v50 := Try.zeroValue137
  t53 := Try.underlying140
  a53 := Try.isAgg140
  z53 := Try.sizeOf140
  v53 := Try.zeroValue140
  t55 := Try.underlying142
  a55 := Try.isAgg142
  z55 := Try.sizeOf142
  v55 := Try.zeroValue142
  t66 := Try.underlying150
  a66 := Try.isAgg150
  z66 := Try.sizeOf150
  v66 := Try.zeroValue150
  t70 := Try.underlying154
  a70 := Try.isAgg154
  z70 := Try.sizeOf154
  v70 := Try.zeroValue154
  t76 := Try.underlying161
  a76 := Try.isAgg161
  z76 := Try.sizeOf161
  v76 := Try.zeroValue161
  t77 := Try.underlying162
  a77 := Try.isAgg162
  z77 := Try.sizeOf162
  v77 := Try.zeroValue162 }
def Try.containsEd_ren : Go.Shelf.Ren := ⟨fun | 8 => 24 | 6 => 42 | n => n, fun | 22 => 55 | 23 => 59 | 25 => 62 | 4 => 4 | 3 => 3 | 0 => 0 | n => n, fun | n => n⟩
theorem Try.containsEd : Go.Proofs.SlLaysH0.n8 Try.prog Try.containsEd_ren := {
  mixed := by kernel_rfl
  f6 := ⟨Try.f42.name, by decide, Try.func42.trans (congrArg some (by kernel_rfl))⟩
  f8 := ⟨Try.f24.name, by decide, Try.func24.trans (congrArg some (by kernel_rfl))⟩
  t0 := Try.underlying0
  a0 := Try.isAgg0
  z0 := Try.sizeOf0
  v0 := Try.zeroValue0
  t3 := Try.underlying3
  a3 := Try.isAgg3
  z3 := Try.sizeOf3
  v3 := Try.zeroValue3
  t4 := Try.underlying4
  a4 := Try.isAgg4
  z4 := Try.sizeOf4
  v4 := Try.zeroValue4
  t22 := Try.underlying55
  a22 := Try.isAgg55
  z22 := Try.sizeOf55
  v22 := Try.zeroValue55
  t25 := Try.underlying62
  a25 := Try.isAgg62
  z25 := Try.sizeOf62
  v25 := Try.zeroValue62 }
def Try.sortFi_ren : Go.Shelf.Ren := ⟨fun | 6 => 38 | 15 => 58 | 14 => 57 | 28 => 80 | 29 => 81 | 20 => 72 | 21 => 73 | 22 => 74 | 23 => 75 | 24 => 76 | 25 => 77 | 26 => 78 | 27 => 79 | 46 => 90 | 47 => 91 | 48 => 92 | 49 => 93 | 50 => 94 | 57 => 105 | n => n, fun | 22 => 46 | 24 => 53 | 25 => 87 | 3 => 3 | 39 => 114 | 0 => 0 | 53 => 140 | 55 => 142 | 4 => 4 | 46 => 133 | 45 => 132 | 50 => 137 | 5 => 5 | 9 => 9 | 66 => 150 | 70 => 154 | 76 => 161 | 77 => 162 | n => n, fun | n => n⟩
theorem Try.sortFi : Go.Proofs.SlLaysF0.n6 Try.prog Try.sortFi_ren := {
  mixed := by kernel_rfl
  f6 := ⟨Try.f38.name, by decide, Try.func38.trans (congrArg some (by kernel_rfl))⟩
  f14 := ⟨Try.f57.name, by decide, Try.func57.trans (congrArg some (by kernel_rfl))⟩
  f15 := Try.func58.trans (congrArg some (by kernel_rfl))
  f20 := ⟨Try.f72.name, by decide, Try.func72.trans (congrArg some (by kernel_rfl))⟩
  f21 := ⟨Try.f73.name, by decide, Try.func73.trans (congrArg some (by kernel_rfl))⟩
  f22 := ⟨Try.f74.name, by decide, Try.func74.trans (congrArg some (by kernel_rfl))⟩
  f23 := ⟨Try.f75.name, by decide, Try.func75.trans (congrArg some (by kernel_rfl))⟩
  f24 := ⟨Try.f76.name, by decide, Try.func76.trans (congrArg some (by kernel_rfl))⟩
  f25 := ⟨Try.f77.name, by decide, Try.func77.trans (congrArg some (by kernel_rfl))⟩
  f26 := ⟨Try.f78.name, by decide, Try.func78.trans (congrArg some (by kernel_rfl))⟩
  f27 := ⟨Try.f79.name, by decide, Try.func79.trans (congrArg some (by kernel_rfl))⟩
  f28 := Try.func80.trans (congrArg some (by kernel_rfl))
  f29 := Try.func81.trans (congrArg some (by kernel_rfl))
  f46 := ⟨Try.f90.name, by decide, Try.func90.trans (congrArg some (by kernel_rfl))⟩
  f47 := Try.func91.trans (congrArg some (by kernel_rfl))
  f48 := Try.func92.trans (congrArg some (by kernel_rfl))
  f49 := ⟨Try.f93.name, by decide, Try.func93.trans (congrArg some (by kernel_rfl))⟩
  f50 := ⟨Try.f94.name, by decide, Try.func94.trans (congrArg some (by kernel_rfl))⟩
  f57 := ⟨Try.f105.name, by decide, Try.func105.trans (congrArg some (by kernel_rfl))⟩
  t0 := Try.underlying0
  a0 := Try.isAgg0
  z0 := Try.sizeOf0
  v0 := Try.zeroValue0
  t3 := Try.underlying3
  a3 := Try.isAgg3
  z3 := Try.sizeOf3
  v3 := Try.zeroValue3
  t4 := Try.underlying4
  a4 := Try.isAgg4
  z4 := Try.sizeOf4
  v4 := Try.zeroValue4
  t5 := Try.underlying5
  a5 := Try.isAgg5
  z5 := Try.sizeOf5
  v5 := Try.zeroValue5
  t9 := Try.underlying9
  a9 := Try.isAgg9
  z9 := Try.sizeOf9
  v9 := Try.zeroValue9
  t22 := Try.underlying46
  a22 := Try.isAgg46
  z22 := Try.sizeOf46
  v22 := Try.zeroValue46
  t25 := Try.underlying87
  a25 := Try.isAgg87
  z25 := Try.sizeOf87
  v25 := Try.zeroValue87
  t39 := Try.underlying114
  a39 := Try.isAgg114
  z39 := Try.sizeOf114
  v39 := Try.zeroValue114
  t45 := Try.underlying132
  a45 := Try.isAgg132
  z45 := Try.sizeOf132
  v45 := Try.zeroValue132
  t46 := Try.underlying133
  a46 := Try.isAgg133
  z46 := Try.sizeOf133
  v46 := Try.zeroValue133
  t50 := Try.underlying137
  a50 := Try.isAgg137
  z50 := Try.sizeOf137
  v50 := Try.zeroValue137
  t53 := Try.underlying140
  a53 := Try.isAgg140
  z53 := Try.sizeOf140
  v53 := Try.zeroValue140
  t55 := Try.underlying142
  a55 := Try.isAgg142
  z55 := Try.sizeOf142
  v55 := Try.zeroValue142
  t66 := Try.underlying150
  a66 := Try.isAgg150
  z66 := Try.sizeOf150
  v66 := Try.zeroValue150
  t70 := Try.underlying154
  a70 := Try.isAgg154
  z70 := Try.sizeOf154
  v70 := Try.zeroValue154
  t76 := Try.underlying161
  a76 := Try.isAgg161
  z76 := Try.sizeOf161
  v76 := Try.zeroValue161
  t77 := Try.underlying162
  a77 := Try.isAgg162
  z77 := Try.sizeOf162
  v77 := Try.zeroValue162 }
def Try.indexFi_ren : Go.Shelf.Ren := ⟨fun | 6 => 53 | n => n, fun | 22 => 46 | 23 => 53 | 25 => 110 | 3 => 3 | 0 => 0 | 4 => 4 | n => n, fun | n => n⟩
theorem Try.indexFi : Go.Proofs.SlLaysH0.n6 Try.prog Try.indexFi_ren := {
  mixed := by kernel_rfl
  f6 := ⟨Try.f53.name, by decide, Try.func53.trans (congrArg some (by kernel_rfl))⟩
  t0 := Try.underlying0
  a0 := Try.isAgg0
  z0 := Try.sizeOf0
  v0 := Try.zeroValue0
  t3 := Try.underlying3
  a3 := Try.isAgg3
  z3 := Try.sizeOf3
  v3 := Try.zeroValue3
  t4 := Try.underlying4
  a4 := Try.isAgg4
  z4 := Try.sizeOf4
  v4 := Try.zeroValue4
  t22 := Try.underlying46
  a22 := Try.isAgg46
  z22 := Try.sizeOf46
  v22 := Try.zeroValue46
  t25 := Try.underlying110
  a25 := Try.isAgg110
  z25 := Try.sizeOf110
  v25 := Try.zeroValue110 }
end Go.Proofs

namespace Go.Proofs
open Go.Shelf
def Try.lays166_ren : Go.Shelf.Ren := ⟨fun | 166 => 46 | 240 => 68 | 276 => 86 | n => n, fun | 0 => 0 | 3 => 3 | 4 => 4 | 5 => 5 | 9 => 9 | 20 => 20 | 37 => 94 | 70 => 93 | 72 => 96 | 75 => 98 | 80 => 102 | 164 => 147 | n => n, fun | n => n⟩
theorem Try.lays166 : Go.Proofs.Lays.n166 Try.prog Try.lays166_ren := {
  mixed := by kernel_rfl
  f166 := Try.func46.trans (congrArg some (by kernel_rfl))
  f240 := Try.func68.trans (congrArg some (by kernel_rfl))
  f276 := Try.func86.trans (congrArg some (by kernel_rfl))
  t0 := Try.underlying0
  a0 := Try.isAgg0
  z0 := Try.sizeOf0
  v0 := Try.zeroValue0
  t3 := Try.underlying3
  a3 := Try.isAgg3
  z3 := Try.sizeOf3
  v3 := Try.zeroValue3
  t4 := Try.underlying4
  a4 := Try.isAgg4
  z4 := Try.sizeOf4
  v4 := Try.zeroValue4
  t9 := Try.underlying9
  a9 := Try.isAgg9
  z9 := Try.sizeOf9
  v9 := Try.zeroValue9
  t20 := Try.underlying20
  a20 := Try.isAgg20
  z20 := Try.sizeOf20
  v20 := Try.zeroValue20
  t37 := Try.underlying94
  a37 := Try.isAgg94
  z37 := Try.sizeOf94
  v37 := Try.zeroValue94
  t70 := Try.underlying93
  a70 := Try.isAgg93
  z70 := Try.sizeOf93
  v70 := Try.zeroValue93
  t72 := Try.underlying96
  a72 := Try.isAgg96
  z72 := Try.sizeOf96
  v72 := Try.zeroValue96
  t75 := Try.underlying98
  a75 := Try.isAgg98
  z75 := Try.sizeOf98
  v75 := Try.zeroValue98
  t164 := Try.underlying147
  a164 := Try.isAgg147
  z164 := Try.sizeOf147
  v164 := Try.zeroValue147 }
theorem Try.Builder_Extra_166 : Builder.Extra Try.prog Try.lays166_ren := {
  sizeBuilder := by kernel_rfl
  liesBuilder := by kernel_rfl
  t5 := Try.underlying5
  a5 := Try.isAgg5
  z5 := Try.sizeOf5
  v5 := Try.zeroValue5
  infoByte := by kernel_rfl
  cellsByte := by kernel_rfl
  sizeByte := by kernel_rfl
  neB5 := by decide }
open Go.RowKit in
theorem Try.Builder_WriteString_k (B b : Nat) (bs : List Value) (s : ByteArray) (w : World) (h : Lib.IsBuilderF 96 5 B b bs w) (hlen : bs.length + s.size ≤ 140737488355328) (hBw : B ≤ w.heap.size) :
    Calls Try.prog 46 #[.pointer (some ⟨b, 0, none⟩), .string s] w fun e w' => e = .returned (.tuple #[.int .i64 s.size, .nilIface]) ∧ (Lib.BuilderAtF 96 5 B b (.pointer (some ⟨b, 0, none⟩)) (bs ++ Lib.strCells s) w' ∧ Below B w w' ∧ Lib.OthersKept 5 (some b) w w') := Any.Builder_WriteString_k Try.lays166 Try.Builder_Extra_166 B b bs s w h hlen hBw
end Go.Proofs

namespace Go.Proofs.Ythimblhfjfngiaa.PText
open Go.RowKit Go.Lib Go.Proofs.YthimblhfjfngiaaW.PrintWords Go.Proofs.YthimblhfjfngiaaW.PrintLast Go.Proofs.YthimblhfjfngiaaW.PrintMore
set_option linter.unusedVariables false
set_option linter.unusedSimpArgs false
def text_sorted.f (l0 : List S59) : Option (List S59) := if l0.length ≤ 10000 then some (Tx.ord eltS l0) else none
theorem isAgg34 : ∀ w, (isAgg 59).run Try.prog w = .ok true w := fun w => by simp [isAgg, run_underlying Try.underlying59]
theorem sizeOf34 : ∀ w, (Go.sizeOf 59).run Try.prog w = .ok 3 w := fun w => by
  obtain ⟨i0, hi, hz0, hz1, hz2⟩ := info_parts info59
  simp [Go.sizeOf, typeInfo, hi, hz1]
theorem ltOf_cfE' : ltOf cfE = eltS := by
  funext x y
  exact ltOf_cfE x y
theorem eltS_swo : Sort.SWO eltS where
  irrefl x := eltS_lin.irr x
  trans x y z h1 h2 := eltS_lin.tr h1 h2
  ntrans x y z h1 h2 := by
    cases q : eltS x z with
    | false => rfl
    | true =>
      cases q1 : eltS y x with
      | true => rw [eltS_lin.tr q1 q] at h2; cases h2
      | false =>
        have e := eltS_lin.tri h1 q1
        rw [e] at q; rw [q] at h2; cases h2
/-- slices.SortFunc, at a row that is not empty -/
theorem sort_calls (g cap : Nat) (l : List S59) (w : World) (hH : Sort.HoldsK enc34 3 w g 0 l.toArray) (hb : g < w.heap.size) (hl : l.length ≤ 10000) :
    Calls Try.prog 65 #[.slice (some ⟨g, 0, none⟩) l.length cap, .func (.func 66) #[] #[]] w fun e w' => e = .returned (.tuple #[]) ∧
      ∃ (d' : Array S59) (n : Nat) (os : Array Obj), d'.size = l.length ∧ (∀ a, a ∈ d'.toList ↔ a ∈ l) ∧ (∀ i j, i < j → j < d'.size → eltS d'[j]! d'[i]! = false) ∧ w' = Sort.grow (Sort.putRowK enc34 3 (Sort.ahead w n) g 0 d') os := by
  have eg : ∀ args w, (callFunc 66 args).run Try.prog w = .ok (.enter 66 args) w := enters_of Try.func66 (by kernel_rfl) rfl
  have hcmp : CmpLays Try.prog 66 #[] enc34 3 cfE g 0 l.toArray.size w := fun m os dk _ x y => text_order.grows 8 x.f0 x.f1 x.f2 y.f0 y.f1 y.f2 (cfE x y) _ (order_f x y)
  have h := AnyQ.slices_SortFunc Try.sortEd 3 isAgg34 sizeOf34 enc34 enc34_len enc34_one cfE (by rw [ltOf_cfE']; exact eltS_swo) 66 #[] g 0 cap l.toArray w eg hcmp hH hb (by rw [List.size_toArray]; omega)
  rw [List.size_toArray] at h
  refine h.mono ?_
  rintro e w' ⟨he, d', n, os, hp, hs, hw⟩
  obtain ⟨p1, _, p3⟩ := hp
  replace p1 : d'.size = l.length := p1.trans (by simp)
  refine ⟨he, d', n, os, p1, fun a => ?_, fun i j hij hj => ?_, hw⟩
  · have e1 : (d'.extract 0 l.length).toList = d'.toList := by rw [show l.length = d'.size from p1.symm]; simp
    have e2 : (l.toArray.extract 0 l.length).toList = l := by simp
    rw [e1, e2] at p3
    exact p3.mem_iff
  · have := hs i j (Nat.zero_le _) hij (by omega)
    rwa [ltOf_cfE'] at this
theorem sort_none (p : Option Addr) (cap : Nat) (w : World) : Calls Try.prog 65 #[.slice p 0 cap, .func (.func 66) #[] #[]] w fun e w' => e = .returned (.tuple #[]) ∧ w' = w :=
  AnyF.slices_SortFunc_none Try.sortEd p cap (.func (.func 66) #[] #[]) w
set_option maxHeartbeats 2000000 in
set_option maxRecDepth 100000 in
theorem compact_none (p : Option Addr) (cap : Nat) (w : World) : Calls Try.prog 67 #[.slice p 0 cap] w fun e w' => e = .returned (.slice p 0 cap) ∧ w' = w := by
  go_enter Try.func67, Try.ntmps67
  go_wp2
  go_ret
  exact ⟨rfl, rfl⟩
theorem clone_row (A0 : Option Addr) (c0 : Nat) (l0 : List S59) (w : World) (hr0 : Kd.C k59 w A0 l0.length l0) (hl : l0.length ≤ 10000) (hp : 0 < l0.length) :
    Calls Try.prog 64 #[.slice A0 l0.length c0] w fun e w' => ∃ (g cap : Nat) (cur : Array Value), e = .returned (.slice (some ⟨g, 0, none⟩) l0.length cap) ∧ w.heap.size ≤ g ∧ g < w'.heap.size ∧
      w'.heap[g]? = some (.cells cur 59 (0, 0)) ∧ l0.length ≤ cap ∧ cap ≤ maxLen ∧ cur.size = cap * 3 ∧ Sort.HoldsK enc34 3 w' g 0 l0.toArray ∧ Below w.heap.size w w' := by
  refine (clone_calls A0 c0 l0 w hr0 hl).mono ?_
  rintro e w' ⟨v0, rfl, ho, hb⟩
  obtain ⟨inner, hlen, ⟨_, hz⟩ | ⟨g, cap, cur, rfl, g1, g2, g3, g4, g5, _⟩⟩ := Kd.R_own ho
  · omega
  · exact ⟨g, cap, cur, rfl, g1, (Array.getElem?_eq_some_iff.1 g2).1, g2, g3, g4, g5, holds_of_row ho ⟨cur, g2⟩, hb⟩
theorem compact_row (g cap n : Nat) (d : Array S59) (w : World) (hs : d.size = n) (hH : Sort.HoldsK enc34 3 w g 0 d) (hn : n ≤ 10000) (hc : n ≤ cap) :
    Calls Try.prog 67 #[.slice (some ⟨g, 0, none⟩) n cap] w fun e w' => e = .returned (.slice (some ⟨g, 0, none⟩) (compactUpTo d d.size).length cap) ∧
      ∃ q F, F.size = d.size * 3 ∧ (∀ t, t < (compactUpTo d d.size).length * 3 → F[t]! = (Sort.flatK enc34 3 (compactUpTo d d.size).toArray)[t]!) ∧ w' = Sort.putRow id (Sort.ahead w q) g 0 F := by
  subst hs
  exact compact_calls g cap d w hH (by omega) hc
theorem sorted_holds {w1 : World} {g n : Nat} {os : Array Obj} {l0 : List S59} {d : Array S59} {cur : Array Value} (hh : w1.heap[g]? = some (.cells cur 59 (0, 0))) (hH : Sort.HoldsK enc34 3 w1 g 0 l0.toArray) (hd : d.size = l0.length) :
    Sort.HoldsK enc34 3 (Sort.grow (Sort.putRowK enc34 3 (Sort.ahead w1 n) g 0 d) os) g 0 d := by
  have hh0 : (Sort.ahead w1 n).heap[g]? = some (.cells cur 59 (0, 0)) := hh
  obtain ⟨cur1, hh1, s1⟩ := putRow_heap id (off := 0) (F := Sort.flatK enc34 3 d) hh0
  exact Sort.holdsK_grow enc34 3 _ os g 0 d (Array.getElem?_eq_some_iff.1 hh1).1 (Sort.holdsK_putRowK enc34 3 _ g 0 l0.toArray d (Sort.holdsK_ahead enc34 3 w1 n g 0 _ hH) (by rw [hd]; simp))
/-- what lies behind the sort and the compaction -/
theorem sorted_row {w w1 : World} {g cap n q : Nat} {os : Array Obj} {l0 : List S59} {d : Array S59} {F cur : Array Value} (hl : l0.length ≤ 10000) (hg : w.heap.size ≤ g) (hh : w1.heap[g]? = some (.cells cur 59 (0, 0))) (hcap : l0.length ≤ cap) (hmax : cap ≤ maxLen) (hsz : cur.size = cap * 3)
    (hH : Sort.HoldsK enc34 3 w1 g 0 l0.toArray) (hb : Below w.heap.size w w1) (hd : d.size = l0.length) (hm : ∀ a, a ∈ d.toList ↔ a ∈ l0) (ho : ∀ i j, i < j → j < d.size → eltS d[j]! d[i]! = false)
    (hF : F.size = d.size * 3) (hF2 : ∀ t, t < (compactUpTo d d.size).length * 3 → F[t]! = (Sort.flatK enc34 3 (compactUpTo d d.size).toArray)[t]!) :
    Kd.R k59 59 (Sort.putRow id (Sort.ahead (Sort.grow (Sort.putRowK enc34 3 (Sort.ahead w1 n) g 0 d) os) q) g 0 F) w.heap.size (fun _ => True) (.slice (some ⟨g, 0, none⟩) (compactUpTo d d.size).length cap) (Tx.ord eltS l0) ∧
      Below w.heap.size w (Sort.putRow id (Sort.ahead (Sort.grow (Sort.putRowK enc34 3 (Sort.ahead w1 n) g 0 d) os) q) g 0 F) := by
  have e := Tx.compact_ord eltS_lin d l0 ho hm
  have hlen : (compactUpTo d d.size).length ≤ l0.length := by rw [e]; exact Tx.ord_len l0
  have hh0 : (Sort.ahead w1 n).heap[g]? = some (.cells cur 59 (0, 0)) := hh
  obtain ⟨cur1, hh1, s1⟩ := putRow_heap id (off := 0) (F := Sort.flatK enc34 3 d) hh0
  have hh2 : (Sort.ahead (Sort.grow (Sort.putRowK enc34 3 (Sort.ahead w1 n) g 0 d) os) q).heap[g]? = some (.cells cur1 59 (0, 0)) := grow_heap os hh1
  obtain ⟨cur2, hh3, s2⟩ := putRow_heap id (off := 0) (F := F) hh2
  have hlt : g < w1.heap.size := (Array.getElem?_eq_some_iff.1 hh).1
  have H1 : Sort.HoldsK enc34 3 (Sort.putRowK enc34 3 (Sort.ahead w1 n) g 0 d) g 0 d := Sort.holdsK_putRowK enc34 3 _ g 0 l0.toArray d (Sort.holdsK_ahead enc34 3 w1 n g 0 _ hH) (by rw [hd]; simp)
  have H2 : Sort.HoldsK enc34 3 (Sort.grow (Sort.putRowK enc34 3 (Sort.ahead w1 n) g 0 d) os) g 0 d := Sort.holdsK_grow enc34 3 _ os g 0 d (Array.getElem?_eq_some_iff.1 hh1).1 H1
  have H3 := Sort.holds_putRow id (Sort.ahead (Sort.grow (Sort.putRowK enc34 3 (Sort.ahead w1 n) g 0 d) os) q) g 0 (Sort.flatK enc34 3 d) F (Sort.holdsK_ahead enc34 3 _ q g 0 d H2) (by rw [hF, Sort.size_flatK])
  constructor
  · rw [e] at hlen hF2 ⊢
    refine row34 (cur := cur2) hh3 hg (by omega) hmax (by omega) fun t ht => ?_
    rw [← hF2 t ht]
    have h4 := (H3 t (by omega)).1
    have ht2 : t < cur2.size := by omega
    simp only [World.cell?, hh3, Nat.zero_add] at h4
    have h5 : cur2[t]? = some F[t]! := h4
    rw [getElem!_pos cur2 t ht2]
    rw [Array.getElem?_eq_getElem ht2] at h5
    exact Option.some.inj h5
  · refine hb.trans (((below_ahead _ w1 n).trans ((below_putRow id _ 0 (Sort.flatK enc34 3 d) hg).trans ?_)).trans (below_putRow id _ 0 F hg))
    refine (below_grow ?_ os).trans (below_ahead _ _ q)
    have := (Array.getElem?_eq_some_iff.1 hh1).1
    show w.heap.size ≤ (Sort.putRow id _ g 0 _).heap.size
    omega
set_option maxHeartbeats 8000000 in
set_option maxRecDepth 100000 in
theorem text_sorted.calls (A0 : Option Addr) (c0 : Nat) (l0 : List S59) (r : List S59) (w : World) (hr0 : Kd.C k59 w A0 l0.length l0) (hc0 : l0.length ≤ c0) (h : text_sorted.f l0 = some r) :
    Calls Try.prog 45 #[.slice A0 l0.length c0] w fun e w' => ∃ v0_ : Value, e = .returned v0_ ∧ Kd.R k59 59 w' w.heap.size (fun _ => True) v0_ r ∧ Below w.heap.size w w' := by
  unfold text_sorted.f at h
  by_cases hl : l0.length ≤ 10000
  · rw [if_pos hl] at h
    have hr := Option.some.inj h
    clear h
    have h1 := clone_calls A0 c0 l0 w hr0 hl
    have h1r := Aside0.mk (clone_row A0 c0 l0 w hr0 hl)
    have H1 := Aside0.mk h1
    have HR := Aside0.mk hr
    have HL := Aside0.mk hl
    clear h1 hr hr0 hl
    by_cases hp : l0.length = 0
    · obtain rfl := List.eq_nil_of_length_eq_zero hp
      clear hp
      have H2 := Aside0.mk (fun p cap w => sort_none p cap w)
      have H3 := Aside0.mk (fun p cap w => compact_none p cap w)
      go_enter Try.func45, Try.ntmps45
      go_wp2_with (first
        | (go_at_call 64; refine H1.out.mono ?_; rintro e w1 ⟨v0, rfl, ho, hb⟩; obtain ⟨A1, c1, rfl⟩ := Kd.R_slice ho; have HO := Aside0.mk ho; have HB := Aside0.mk hb; clear ho hb H1)
        | (go_at_call 65; refine (H2.out _ _ _).mono ?_; rintro e w1 ⟨rfl, rfl⟩; clear H2)
        | (go_at_call 67; refine (H3.out _ _ _).mono ?_; rintro e w1 ⟨rfl, rfl⟩; clear H3))
      go_ret
      refine ⟨_, rfl, ?_, HB.out⟩
      rw [← HR.out]
      exact HO.out
    · replace hp : 0 < l0.length := by omega
      have H2 := Aside0.mk (fun g cap w1 h1 h2 => sort_calls g cap l0 w1 h1 h2 HL.out)
      have H3 := Aside0.mk (fun g cap d w2 hs h1 hc => compact_row g cap l0.length d w2 hs h1 HL.out hc)
      have H1R := Aside0.mk (h1r.out hp)
      clear h1r H1
      go_enter Try.func45, Try.ntmps45
      go_wp2_with (first
        | (go_at_call 64; refine H1R.out.mono ?_; rintro e w1 ⟨g, cap, cur, rfl, g1, g2, g3, g4, g5, g6, g7, g8⟩; have G := Aside0.mk (And.intro g1 (And.intro g2 (And.intro g3 (And.intro g4 (And.intro g5 (And.intro g6 (And.intro g7 g8))))))); clear g1 g2 g3 g4 g5 g6 g7 g8 H1R)
        | (go_at_call 65; refine (H2.out g cap w1 G.out.2.2.2.2.2.2.1 G.out.2.1).mono ?_; rintro e w2 ⟨rfl, d', n, os, s1, s2, s3, rfl⟩; have S := Aside0.mk (And.intro s1 (And.intro s2 s3)); clear s1 s2 s3 H2)
        | (go_at_call 67; refine (H3.out g cap d' _ S.out.1 (sorted_holds G.out.2.2.1 G.out.2.2.2.2.2.2.1 S.out.1) G.out.2.2.2.1).mono ?_; rintro e w3 ⟨rfl, q, F, f1, f2, rfl⟩; have FF := Aside0.mk (And.intro f1 f2); clear f1 f2 H3))
      go_ret
      have R := sorted_row (n := n) (os := os) (q := q) HL.out G.out.1 G.out.2.2.1 G.out.2.2.2.1 G.out.2.2.2.2.1 G.out.2.2.2.2.2.1 G.out.2.2.2.2.2.2.1 G.out.2.2.2.2.2.2.2 S.out.1 S.out.2.1 S.out.2.2 FF.out.1 FF.out.2
      rw [← HR.out]
      exact ⟨_, rfl, R.1, R.2⟩
  · rw [if_neg hl] at h; cases h
end Go.Proofs.Ythimblhfjfngiaa.PText

namespace Go.Proofs.Ythimblhfjfngiaa.PText
open Go.RowKit Go.Lib Go.Sort Go.Proofs.YthimblhfjfngiaaW.PrintWords Go.Proofs.YthimblhfjfngiaaW.PrintLast Go.Proofs.YthimblhfjfngiaaW.PrintMore
set_option linter.unusedVariables false
set_option linter.unusedSimpArgs false
instance : Inhabited S53 := ⟨z53⟩
theorem S53.ext' {a b : S53} (h0 : a.f0 = b.f0) (h1 : a.f1 = b.f1) : a = b := by cases a; cases b; simp_all
instance : DecidableEq S53 := fun a b => decidable_of_iff (a.f0 = b.f0 ∧ a.f1 = b.f1) ⟨fun h => S53.ext' h.1 h.2, fun h => by subst h; exact ⟨rfl, rfl⟩⟩
def enc53 (x : S53) : List Value := [.string x.f0, .string x.f1]
theorem enc53_len (x : S53) : (enc53 x).length = 2 := rfl
theorem enc53_one (x : S53) : ∀ v ∈ enc53 x, v.oneCell' = true := by
  intro v hv
  simp [enc53] at hv
  rcases hv with rfl | rfl <;> rfl
theorem isAgg53 : ∀ w, (isAgg 53).run Try.prog w = .ok true w := fun w => by simp [isAgg, run_underlying Try.underlying53]
theorem sizeOf53 : ∀ w, (Go.sizeOf 53).run Try.prog w = .ok 2 w := fun w => by
  obtain ⟨i0, hi, hz0, hz1, hz2⟩ := info_parts info53
  simp [Go.sizeOf, typeInfo, hi, hz1]
/-- a row of one's own, out of its cells -/
theorem row53 {W : World} {base g cap : Nat} {cur : Array Value} {r : List S53} (hh : W.heap[g]? = some (.cells cur 53 (0, 0))) (hb : base ≤ g) (hl : r.length ≤ cap) (hm : cap ≤ maxLen) (hs : cur.size = cap * 2)
    (hc : ∀ t, t < r.length * 2 → cur[t]! = (Sort.flatK enc53 2 r.toArray)[t]!) : Kd.R k53 53 W base (fun _ => True) (.slice (some ⟨g, 0, none⟩) r.length cap) r := by
  have hle : r.length * 2 ≤ cur.size := by omega
  refine ⟨fun _ _ => trivial, cur.toList.take (r.length * 2), ⟨by rw [List.length_take, Nat.min_eq_left (by rw [Array.length_toList]; exact hle)]; rfl, Or.inr ⟨g, cap, cur, rfl, hb, hh, hl, hm, hs, rfl⟩⟩, by rw [List.length_take, Nat.min_eq_left (by rw [Array.length_toList]; exact hle)]; rfl, fun j p hp => ?_⟩
  obtain ⟨hj, rfl⟩ := List.getElem?_eq_some_iff.1 hp
  have key : ((cur.toList.take (r.length * 2)).drop (j * 2)).take 2 = [.string r[j].f0, .string r[j].f1] := by
    have one : ∀ c, c < 2 → cur[j * 2 + c]? = some (enc53 r[j])[c]! := by
      intro c hcc
      have h1 := hc (j * 2 + c) (by omega)
      rw [Sort.get_flatK _ _ _ _ (by rw [List.size_toArray]; omega), show (j * 2 + c) / 2 = j by omega, show (j * 2 + c) % 2 = c by omega] at h1
      rw [Array.getElem?_eq_getElem (by omega), ← getElem!_pos cur (j * 2 + c) (by omega), h1, getElem!_pos r.toArray j (by rw [List.size_toArray]; exact hj), List.getElem_toArray]
    have z0 := one 0 (by omega)
    have z1 := one 1 (by omega)
    apply List.ext_getElem?
    intro c
    rw [List.getElem?_take]
    by_cases h3 : c < 2
    · rw [if_pos h3, List.getElem?_drop, List.getElem?_take, if_pos (by omega), Array.getElem?_toList]
      have : c = 0 ∨ c = 1 := by omega
      rcases this with rfl | rfl
      · rw [z0]; rfl
      · rw [z1]; rfl
    · rw [if_neg h3, List.getElem?_eq_none (by simp; omega)]
  show k53.M W base _ r[j] (((cur.toList.take (r.length * 2)).drop (j * 2)).take 2)
  rw [key]
  exact k53_mkM _ _ _ _
/-- the cells of a row of one's own -/
theorem holds_of_row53 {W : World} {base g cap : Nat} {ok : Nat → Prop} {l : List S53} (h : Kd.R k53 53 W base ok (.slice (some ⟨g, 0, none⟩) l.length cap) l) (hg : ∃ cur, W.heap[g]? = some (.cells cur 53 (0, 0))) : Sort.HoldsK enc53 2 W g 0 l.toArray := by
  intro t ht
  rw [Sort.size_flatK, List.size_toArray] at ht
  have hC := (Kd.R_reads' h).2.2
  obtain ⟨ad, e, h0, h1⟩ := at_T53 hC ((t / 2 : Nat) : Int) (by omega) (by omega)
  cases e
  obtain ⟨cur, hcur⟩ := hg
  refine ⟨?_, by simp [World.frozen?, hcur]⟩
  rw [Sort.get_flatK _ _ _ _ (by rw [List.size_toArray]; exact ht)]
  have hx : (l.toArray)[t / 2]! = rd_T53 l ((t / 2 : Nat) : Int) := by
    unfold rd_T53
    rw [Int.toNat_natCast, getElem!_pos l.toArray (t / 2) (by rw [List.size_toArray]; omega), List.getElem_toArray, List.getD_eq_getElem?_getD, List.getElem?_eq_getElem (by omega)]
    rfl
  rw [hx]
  simp only [Int.toNat_natCast, add_plain] at h0 h1
  have : t % 2 = 0 ∨ t % 2 = 1 := by omega
  rcases this with c | c
  · rw [c, show 0 + t = t / 2 * 2 by omega]; exact h0
  · rw [c, show 0 + t = t / 2 * 2 + 1 by omega]; exact h1
theorem C_none53 {w : World} {l : List S53} (h : Kd.C k53 w none l.length l) : l = [] := by
  cases l with
  | nil => rfl
  | cons x r =>
    obtain ⟨ad, _, q, _⟩ := Kd.C_get h z53 0 (Int.le_refl _) (by rw [List.length_cons]; omega)
    cases q
set_option maxHeartbeats 8000000 in
set_option maxRecDepth 100000 in
theorem clone53_calls (A0 : Option Addr) (c0 : Nat) (l0 : List S53) (w : World) (hr0 : Kd.C k53 w A0 l0.length l0) (hl : l0.length ≤ 10000) :
    Calls Try.prog 37 #[.slice A0 l0.length c0] w fun e w' => ∃ v0_ : Value, e = .returned v0_ ∧ Kd.R k53 53 w' w.heap.size (fun _ => True) v0_ l0 ∧ Below w.heap.size w w' := by
  have hnil : ∀ w', Sem.run Try.prog (binOp .eql 46 (.slice A0 l0.length c0) (.slice none 0 0)) w' = .ok (.bool A0.isNone) w' := fun w' => Go.Lib.run_eql_slice_nil w' 46 53 A0 l0.length c0 0 0 Try.underlying46
  have HR1 := Aside0.mk hr0
  clear hr0
  cases hA : A0.isNone with
  | true =>
    obtain rfl : A0 = none := by cases A0 with | none => rfl | some a => cases hA
    obtain rfl := C_none53 HR1.out
    rw [hA] at hnil
    simp only [List.length_nil] at hnil ⊢
    go_enter Try.func37, Try.ntmps37
    go_wp2
    go_ret
    exact ⟨_, rfl, Kd.R_nil _ _ _ _ _, Below.refl _ _⟩
  | false =>
    rw [hA] at hnil
    have HB := Aside0.mk (Below.refl w.heap.size w)
    obtain ⟨y467, hy467⟩ : ∃ y_ : List (S53), y_ = (([] : List (S53))) := ⟨_, rfl⟩
    have Ny467 := Aside0.mk hy467
    have LMc8 := Aside0.mk (show y467.length + l0.length < 4398046511104 by rw [hy467]; simp; omega)
    clear hy467
    obtain ⟨y470, hy470⟩ : ∃ y_ : List (S53), y_ = (y467 ++ l0) := ⟨_, rfl⟩
    have Ny470 := Aside0.mk hy470
    clear hy470
    go_enter Try.func37, Try.ntmps37
    go_wp2_with (first | ((with_reducible refine gate_dst (N := 5) rfl ?_); refine Kd.R_lit k53 _ 53 ?hg (N := 5) ?hd (xs := ([] : List (S53))) (inner := []) (ok := fun _ => True) (okp := fun _ => True) ?hr ?hp (fun _ hk => hk) trivial (Below.refl _ _) (Nat.le_refl _) (by simp) ?_; (case hd => rfl); (case hg => rfl); (case hr => first | (go_simp; done) | (go_simp; rfl)); (case hp => exact (Reps.none _ _)); intro v468 w13 ho14 hb hg_ hnew_; clear hg_ hnew_; (first | rw [← Ny467.out] at ho14 | (simp only [Int.reduceToNat] at ho14; rw [← Ny467.out] at ho14)); have n0_ := Aside0.mk (Kd.R_lower ho14 (below_size (by repeat (first | (with_reducible first | exact HB.out | apply below_alloc | apply pw_below_drewN | apply below_drew1) | exact HB.out)))); have n1_ := Aside0.mk (below_step (by repeat (first | (with_reducible first | exact HB.out | apply below_alloc | apply pw_below_drewN | apply below_drew1) | exact HB.out)) hb); clear HB; have HO469 := n0_; have HB := n1_; clear n0_ n1_; clear hb ho14) | ((with_reducible refine gate_builtin (b := .append) (xs := #[.tmp 5, .tmp 6]) rfl ?_); at_builtin; refine Kd.R_append_rows k53 (w0 := w) w.heap.size rfl (.tmp 5) (.tmp 6) 46 53 (.agg #[(.string ⟨#[]⟩), (.string ⟨#[]⟩)]) 32 rfl Try.underlying46 info53 rfl (by decide) (by omega) v468 y467 l0 _ _ _ (fun _ => True) (fun _ => False) rfl rfl ?aO ?aR (fun _ _ h => h) (fun _ h => h.elim) ?aF ?aB ?aS ?aL ?_; (case aR => repeat (first | exact (Kd.C_below HR1.out HB.out) | (with_reducible refine Kd.C_alloc ?_ _) | (with_reducible refine Kd.C_drewN ?_ _) | (with_reducible refine Kd.C_drew ?_))); (case aB => exact (by repeat (first | (with_reducible first | exact HB.out | apply below_alloc | apply pw_below_drewN | apply below_drew1) | exact HB.out))); (case aF => exact (fun _ _ => trivial)); (case aO => exact (by (with_reducible repeat (first | apply Kd.R_alloc | apply Kd.R_drewN | apply Kd.R_drew)); exact HO469.out)); (case aS => exact (below_size (by repeat (first | (with_reducible first | exact HB.out | apply below_alloc | apply pw_below_drewN | apply below_drew1) | exact HB.out)))); (case aL => have := LMc8.out; omega); intro v471 w15 ho hb hg hat; rw [← Ny470.out] at ho; have n0_ := Aside0.mk (hb); have n1_ := Aside0.mk (ho); clear HB; clear HO469; have HB := n0_; have HO472 := n1_; clear n0_ n1_; clear ho hb hg hat))
    go_ret
    have e : y470 = l0 := by rw [Ny470.out, Ny467.out]; rfl
    rw [e] at HO472
    exact ⟨_, rfl, HO472.out, HB.out⟩
/-- the order of files: by their names -/
def cfF (x y : S53) : Int := cS x.f0.toList y.f0.toList
def ltF (x y : S53) : Bool := decide (x.f0.toList < y.f0.toList)
theorem ltOf_cfF : ltOf cfF = ltF := by
  funext x y
  show decide (cfF x y < 0) = ltF x y
  unfold cfF cS ltF
  by_cases h : x.f0.toList < y.f0.toList
  · rw [if_pos h, decide_eq_true h]; rfl
  · rw [if_neg h, decide_eq_false h]
    by_cases h2 : y.f0.toList < x.f0.toList
    · rw [if_pos h2]; rfl
    · rw [if_neg h2]; rfl
theorem ltF_swo : Sort.SWO ltF where
  irrefl x := decide_eq_false (List.lt_irrefl _)
  trans x y z h1 h2 := decide_eq_true (List.lt_trans (of_decide_eq_true h1) (of_decide_eq_true h2))
  ntrans x y z h1 h2 := decide_eq_false (fun q => by
    have a1 := of_decide_eq_false h1
    have a2 := of_decide_eq_false h2
    have b1 : y.f0.toList ≤ x.f0.toList := List.not_lt.1 a1
    have b2 : z.f0.toList ≤ y.f0.toList := List.not_lt.1 a2
    exact absurd q (List.not_lt.2 (List.le_trans b2 b1)))
theorem order53_grows (x y : S53) (w : World) : Calls Try.prog 39 #[.agg #[.string x.f0, .string x.f1], .agg #[.string y.f0, .string y.f1]] w fun e w' => e = .returned (.int .i64 (cfF x y)) ∧ ∃ q os', w' = Sort.grow (w.drewN q) os' := by
  go_enter Try.func39, Try.ntmps39
  go_wp2_with (go_at_call 40; refine (cmp_Compare_string.calls x.f0 y.f0 (cfF x y) _ (cmpS_f x.f0 y.f0)).mono ?_; rintro e w2 ⟨rfl, hd⟩)
  go_ret
  obtain ⟨q, rfl⟩ := hd
  exact ⟨rfl, grow_of_below (pw_below_drewN (((Below.refl _ w).alloc (Nat.le_refl _) _).alloc (by simp) _) _) (by simp [World.drewN])⟩
theorem sort53_calls (g cap : Nat) (l : List S53) (w : World) (hH : Sort.HoldsK enc53 2 w g 0 l.toArray) (hb : g < w.heap.size) (hl : l.length ≤ 10000) :
    Calls Try.prog 38 #[.slice (some ⟨g, 0, none⟩) l.length cap, .func (.func 39) #[] #[]] w fun e w' => e = .returned (.tuple #[]) ∧
      ∃ (d' : Array S53) (n : Nat) (os : Array Obj), d'.size = l.length ∧ d'.toList.Perm l ∧ (∀ i j, i < j → j < d'.size → ltF d'[j]! d'[i]! = false) ∧ w' = Sort.grow (Sort.putRowK enc53 2 (Sort.ahead w n) g 0 d') os := by
  have eg : ∀ args w, (callFunc 39 args).run Try.prog w = .ok (.enter 39 args) w := enters_of Try.func39 (by kernel_rfl) rfl
  have hcmp : CmpLays Try.prog 39 #[] enc53 2 cfF g 0 l.toArray.size w := fun m os dk _ x y => order53_grows x y _
  have h := AnyQ.slices_SortFunc Try.sortFi 2 isAgg53 sizeOf53 enc53 enc53_len enc53_one cfF (by rw [ltOf_cfF]; exact ltF_swo) 39 #[] g 0 cap l.toArray w eg hcmp hH hb (by rw [List.size_toArray]; omega)
  rw [List.size_toArray] at h
  refine h.mono ?_
  rintro e w' ⟨he, d', n, os, hp, hs, hw⟩
  obtain ⟨p1, _, p3⟩ := hp
  replace p1 : d'.size = l.length := p1.trans (by simp)
  refine ⟨he, d', n, os, p1, ?_, fun i j hij hj => ?_, hw⟩
  · have e1 : (d'.extract 0 l.length).toList = d'.toList := by rw [show l.length = d'.size from p1.symm]; simp
    have e2 : (l.toArray.extract 0 l.length).toList = l := by simp
    rw [e1, e2] at p3
    exact p3
  · have := hs i j (Nat.zero_le _) hij (by omega)
    rwa [ltOf_cfF] at this
/-- a row of one's own, sorted -/
theorem sort53_row (A : Option Addr) (cap : Nat) (l : List S53) (w : World) (base : Nat) (h : Kd.R k53 53 w base (fun _ => True) (.slice A l.length cap) l) (hl : l.length ≤ 10000) :
    Calls Try.prog 38 #[.slice A l.length cap, .func (.func 39) #[] #[]] w fun e w' => e = .returned (.tuple #[]) ∧
      ∃ d : List S53, d.length = l.length ∧ d.Perm l ∧ (∀ i j, i < j → ∀ hj : j < d.length, ∀ hi : i < d.length, ltF d[j] d[i] = false) ∧ Kd.R k53 53 w' base (fun _ => True) (.slice A l.length cap) d ∧ Below base w w' := by
  by_cases h0 : l = []
  · subst h0
    refine (AnyF.slices_SortFunc_none Try.sortFi A cap (.func (.func 39) #[] #[]) w).mono ?_
    rintro e w' ⟨rfl, rfl⟩
    exact ⟨rfl, [], rfl, List.Perm.refl _, fun i j h1 hj => absurd hj (Nat.not_lt_zero _), h, Below.refl _ _⟩
  · obtain ⟨inner, hlen, hz | ⟨g, cap', cur, e, g1, g2, g3, g4, g5, _⟩⟩ := Kd.R_own h
    · exact absurd (List.eq_nil_of_length_eq_zero hz.2) h0
    · cases e
      replace g5 : cur.size = cap * 2 := g5
      have hg := (Array.getElem?_eq_some_iff.1 g2).1
      have hH := holds_of_row53 h ⟨cur, g2⟩
      refine (sort53_calls g cap l w hH hg hl).mono ?_
      rintro e w' ⟨he, d', n, os, p1, p2, p3, rfl⟩
      have hh0 : (Sort.ahead w n).heap[g]? = some (.cells cur 53 (0, 0)) := g2
      obtain ⟨cur1, hh1, s1⟩ := putRow_heap id (off := 0) (F := Sort.flatK enc53 2 d') hh0
      have H1 : Sort.HoldsK enc53 2 (Sort.putRowK enc53 2 (Sort.ahead w n) g 0 d') g 0 d' := Sort.holdsK_putRowK enc53 2 _ g 0 l.toArray d' (Sort.holdsK_ahead enc53 2 w n g 0 _ hH) (by rw [p1]; simp)
      have hh2 : (Sort.grow (Sort.putRowK enc53 2 (Sort.ahead w n) g 0 d') os).heap[g]? = some (.cells cur1 53 (0, 0)) := grow_heap os hh1
      have H2 : Sort.HoldsK enc53 2 (Sort.grow (Sort.putRowK enc53 2 (Sort.ahead w n) g 0 d') os) g 0 d' := Sort.holdsK_grow enc53 2 _ os g 0 d' (Array.getElem?_eq_some_iff.1 hh1).1 H1
      have hlen' : d'.toList.length = l.length := by rw [Array.length_toList, p1]
      refine ⟨he, d'.toList, hlen', p2, fun i j hij hj hi => ?_, ?_, ?_⟩
      · have := p3 i j hij (by simpa using hj)
        rw [getElem!_pos d' j (by simpa using hj), getElem!_pos d' i (by simpa using hi)] at this
        simpa using this
      · have := row53 (W := Sort.grow (Sort.putRowK enc53 2 (Sort.ahead w n) g 0 d') os) (base := base) (g := g) (cap := cap) (cur := cur1) (r := d'.toList) hh2 g1 (by omega) g4 (by rw [s1, g5]) (fun t ht => by
          have h4 := (H2 t (by rw [Sort.size_flatK]; simpa using ht)).1
          have ht2 : t < cur1.size := by rw [s1, g5]; rw [hlen'] at ht; omega
          simp only [World.cell?, hh2, Nat.zero_add] at h4
          have h5 : cur1[t]? = some (Sort.flatK enc53 2 d')[t]! := h4
          rw [getElem!_pos cur1 t ht2]
          rw [Array.getElem?_eq_getElem ht2] at h5
          simpa using Option.some.inj h5)
        rw [hlen'] at this
        exact this
      · refine ((below_ahead _ w n).trans ((below_putRow id _ 0 (Sort.flatK enc53 2 d') g1).trans ?_))
        refine below_grow ?_ os
        have := (Array.getElem?_eq_some_iff.1 hh1).1
        show base ≤ (Sort.putRow id _ g 0 _).heap.size
        omega
end Go.Proofs.Ythimblhfjfngiaa.PText

namespace Go.Proofs.Ythimblhfjfngiaa.PText
open Go.RowKit Go.Lib Go.Proofs.YthimblhfjfngiaaW.PrintWords Go.Proofs.YthimblhfjfngiaaW.PrintLast Go.Proofs.YthimblhfjfngiaaW.PrintMore
set_option linter.unusedVariables false
set_option linter.unusedSimpArgs false
def text_Fine.f (a0 : ByteArray) (l1 : List S59) : Option Int := some (fineE a0.size l1)
theorem fine_pred (s : ByteArray) (B : Nat) (w : World) (hB : B < w.heap.size) (hcell : w.cell? ⟨B, 0, none⟩ = some (.string s)) :
    PredBelow Try.prog 62 #[.pointer (some ⟨B, 0, none⟩)] (fun x => .agg (enc34 x).toArray) (badE s.size) w := fun W x hb => by
  have hc : W.cell? ⟨B, 0, none⟩ = some (.string s) := (hb.cell (p := ⟨B, 0, none⟩) hB).trans hcell
  have hBW : B < W.heap.size := Nat.lt_of_lt_of_le hB hb.size
  have hne : B ≠ W.heap.size := by omega
  have hu34 := Try.underlying59
  show Calls Try.prog 62 #[.agg #[.int .i64 x.f0, .int .i64 x.f1, .string x.f2], .pointer (some ⟨B, 0, none⟩)] W _
  unfold badE
  by_cases h1 : x.f0 < 0
  · go_enter Try.func62, Try.ntmps62
    go_wp2
    go_ret
    exact ⟨by simp [h1], hb.alloc hb.size _⟩
  · by_cases h2 : (s.size : Int) < x.f1
    · go_enter Try.func62, Try.ntmps62
      go_wp2
      go_ret
      exact ⟨by simp [h1, h2], hb.alloc hb.size _⟩
    · go_enter Try.func62, Try.ntmps62
      go_wp2
      go_ret
      exact ⟨by first | (simp [h1, h2]; done) | (simp; omega), hb.alloc hb.size _⟩
set_option maxHeartbeats 1000000 in
theorem index_empty (p : Option Addr) (c g : Nat) (lb : Array Value) (w : World) : Calls Try.prog 42 #[.slice p 0 c, .func (.func g) #[] lb] w fun e w' => e = .returned (.int .i64 (-1)) ∧ Below w.heap.size w w' := by
  go_enter Try.func42, Try.ntmps42
  go_wp2
  go_loopg [5, 8] 0 (fun _ _ s8 wr => s8 = .int .i64 0 ∧ wr = w)
  case atStart => exact ⟨rfl, rfl⟩
  case round =>
    obtain ⟨rfl, rfl⟩ := hrel
    go_wp2
    go_ret
    exact ⟨rfl, Below.refl _ _⟩
set_option maxHeartbeats 1000000 in
theorem contains_empty (p : Option Addr) (c g : Nat) (lb : Array Value) (w : World) : Calls Try.prog 24 #[.slice p 0 c, .func (.func g) #[] lb] w fun e w' => e = .returned (.bool false) ∧ Below w.heap.size w w' := by
  go_enter Try.func24, Try.ntmps24
  go_wp2_with (go_at_call 42; refine (index_empty p c g lb _).mono ?_; rintro e w' ⟨rfl, hb⟩)
  go_ret
  exact ⟨rfl, hb⟩
theorem C_addr34 {w : World} {A : Option Addr} {l : List S59} (h : Kd.C k59 w A l.length l) (hp : 0 < l.length) :
    ∃ b o, A = some ⟨b, o, none⟩ ∧ b < w.heap.size ∧ ∀ j, j < l.length → ∀ i v, (enc34 l[j]!)[i]? = some v → w.cell? ⟨b, o + j * 3 + i, none⟩ = some v := by
  obtain ⟨⟨b, o, sp⟩, rfl, h0, _⟩ := at_T59 h 0 (by omega) (by omega)
  have hsp : sp = none := by
    cases sp with
    | none => rfl
    | some q =>
      unfold World.cell? at h0
      simp only [Addr.add] at h0
      split at h0 <;> simp at h0
  subst hsp
  have hb : b < w.heap.size := World.block_lt_of_cell? w _ h0
  refine ⟨b, o, rfl, hb, fun j hj i v hv => ?_⟩
  obtain ⟨ad, e, h1, h2, h3⟩ := at_T59 h (j : Int) (by omega) (by omega)
  cases e
  rw [rd34_at l j hj] at h1 h2 h3
  rw [getElem!_pos l j hj] at hv
  simp only [Int.toNat_natCast, Addr.add_lit] at h1 h2 h3
  match i, hv with
  | 0, hv => simp [enc34] at hv; subst hv; exact h1
  | 1, hv => simp [enc34] at hv; subst hv; exact h2
  | 2, hv => simp [enc34] at hv; subst hv; exact h3
  | i + 3, hv => simp [enc34] at hv
theorem contains_calls (a0 : ByteArray) (A1 : Option Addr) (c1 B : Nat) (l1 : List S59) (w : World) (hC : Kd.C k59 w A1 l1.length l1) (hB : B < w.heap.size) (hcell : w.cell? ⟨B, 0, none⟩ = some (.string a0)) (hl : l1.length ≤ 10000) :
    Calls Try.prog 24 #[.slice A1 l1.length c1, .func (.func 62) #[] #[.pointer (some ⟨B, 0, none⟩)]] w fun e w' => e = .returned (.bool (l1.any (badE a0.size))) ∧ Below w.heap.size w w' := by
  by_cases hp : l1.length = 0
  · obtain rfl := List.eq_nil_of_length_eq_zero hp
    exact contains_empty A1 c1 62 _ w
  · obtain ⟨b, o, rfl, hb, hc⟩ := C_addr34 hC (by omega)
    have eg : ∀ args w, (callFunc 62 args).run Try.prog w = .ok (.enter 62 args) w := enters_of Try.func62 (by kernel_rfl) rfl
    have h := AnyQ.slices_ContainsFunc Try.containsEd 3 isAgg34 sizeOf34 enc34 enc34_len (badE a0.size) 62 #[.pointer (some ⟨B, 0, none⟩)] eg b o l1.length c1 l1 w (fine_pred a0 B w hB hcell) (Nat.le_refl _) (by omega) hb hc
    rw [List.take_length] at h
    exact h
set_option maxHeartbeats 8000000 in
set_option maxRecDepth 100000 in
theorem text_Fine.calls (a0 : ByteArray) (A1 : Option Addr) (c1 : Nat) (l1 : List S59) (r : Int) (w : World) (hr1 : Kd.C k59 w A1 l1.length l1) (hc1 : l1.length ≤ c1) (h : text_Fine.f a0 l1 = some r) :
    Calls Try.prog 44 #[.string a0, .slice A1 l1.length c1] w fun e w' => e = .returned (.int .i64 r) ∧ Below w.heap.size w w' := by
  have hr := Option.some.inj h
  clear h
  have HR := Aside0.mk hr
  have HC := Aside0.mk hr1
  have HL := Aside0.mk hc1
  clear hr hr1 hc1
  by_cases g1 : 200000 < a0.size
  · go_enter Try.func44, Try.ntmps44
    go_wp2
    go_ret
    refine ⟨?_, (Below.refl _ w).alloc (Nat.le_refl _) _⟩
    rw [← HR.out]
    unfold fineE
    rw [if_pos (Or.inl g1)]
    rfl
  · by_cases g2 : 10000 < l1.length
    · go_enter Try.func44, Try.ntmps44
      go_wp2
      go_ret
      refine ⟨?_, (Below.refl _ w).alloc (Nat.le_refl _) _⟩
      rw [← HR.out]
      unfold fineE
      rw [if_pos (Or.inr g2)]
      rfl
    · have W1 := Aside0.mk ((Below.refl w.heap.size w).alloc (Nat.le_refl _) (.cells #[.string a0] 9))
      have H37 := Aside0.mk (contains_calls a0 A1 c1 w.heap.size l1 (w.alloc (.cells #[.string a0] 9)) (Kd.C_below HC.out W1.out) (by simp) (by simp) (by omega))
      have H32 := Aside0.mk (fun w2 (h2 : Kd.C k59 w2 A1 l1.length l1) => text_sorted.calls A1 c1 l1 (Tx.ord eltS l1) w2 h2 HL.out (by unfold text_sorted.f; rw [if_pos (by omega)]))
      have hlo : (Tx.ord eltS l1).length ≤ 10000 := Nat.le_trans (Tx.ord_len l1) (by omega)
      have HLO := Aside0.mk hlo
      clear hlo
      obtain ⟨cl, hcl⟩ : ∃ b, b = Tx.clash 0 (-1) ((Tx.ord eltS l1).map toE) := ⟨_, rfl⟩
      have H39 := Aside0.mk (fun A c w3 (h3 : Kd.C k59 w3 A (Tx.ord eltS l1).length (Tx.ord eltS l1)) (h4 : (Tx.ord eltS l1).length ≤ c) => text_clash.calls 20001 A c (Tx.ord eltS l1) cl w3 h3 h4 (by rw [clash_f _ HLO.out, hcl]))
      have HCL := Aside0.mk hcl
      clear hcl
      cases hany : l1.any (badE a0.size) with
      | true =>
        rw [hany] at H37
        have HA := Aside0.mk hany
        clear hany H32 H39
        go_enter Try.func44, Try.ntmps44
        go_wp2_with (go_at_call 24; refine H37.out.mono ?_; rintro e w2 ⟨rfl, hb⟩; have HB := Aside0.mk hb; clear hb H37)
        go_ret
        refine ⟨?_, W1.out.trans (HB.out.mono (by simp))⟩
        rw [← HR.out]
        unfold fineE
        rw [if_neg (by omega), if_pos HA.out]
        rfl
      | false =>
        rw [hany] at H37
        have HA := Aside0.mk hany
        clear hany
        have fin : (if cl = true then (10 : Int) else 0) = r := by
          rw [← HR.out]
          unfold fineE
          rw [if_neg (show ¬ (200000 < a0.size ∨ 10000 < l1.length) by omega), if_neg (show ¬ (l1.any (badE a0.size) = true) by rw [HA.out]; decide), ← HCL.out]
        have FIN := Aside0.mk fin
        clear fin
        cases cl with
        | true =>
          go_enter Try.func44, Try.ntmps44
          go_wp2_with (first
            | (go_at_call 24; refine H37.out.mono ?_; rintro e w2 ⟨rfl, hb⟩; have HB := Aside0.mk (W1.out.trans (hb.mono (by simp))); clear hb H37)
            | (go_at_call 45; refine (H32.out w2 (Kd.C_below HC.out HB.out)).mono ?_; rintro e w3 ⟨v3, rfl, ho, hb⟩; obtain ⟨A3, c3, rfl⟩ := Kd.R_slice ho; have HO := Aside0.mk ho; have HB3 := Aside0.mk (HB.out.trans (hb.mono HB.out.size)); clear ho hb H32)
            | (go_at_call 63; refine (H39.out A3 c3 w3 (Kd.R_reads' HO.out).2.2 (Kd.R_reads' HO.out).2.1).mono ?_; rintro e w4 ⟨rfl, hb⟩; have HB4 := Aside0.mk (HB3.out.trans (hb.mono HB3.out.size)); clear hb H39))
          go_ret
          exact ⟨by rw [← FIN.out]; rfl, HB4.out⟩
        | false =>
          go_enter Try.func44, Try.ntmps44
          go_wp2_with (first
            | (go_at_call 24; refine H37.out.mono ?_; rintro e w2 ⟨rfl, hb⟩; have HB := Aside0.mk (W1.out.trans (hb.mono (by simp))); clear hb H37)
            | (go_at_call 45; refine (H32.out w2 (Kd.C_below HC.out HB.out)).mono ?_; rintro e w3 ⟨v3, rfl, ho, hb⟩; obtain ⟨A3, c3, rfl⟩ := Kd.R_slice ho; have HO := Aside0.mk ho; have HB3 := Aside0.mk (HB.out.trans (hb.mono HB.out.size)); clear ho hb H32)
            | (go_at_call 63; refine (H39.out A3 c3 w3 (Kd.R_reads' HO.out).2.2 (Kd.R_reads' HO.out).2.1).mono ?_; rintro e w4 ⟨rfl, hb⟩; have HB4 := Aside0.mk (HB3.out.trans (hb.mono HB3.out.size)); clear hb H39))
          go_ret
          exact ⟨by rw [← FIN.out]; rfl, HB4.out⟩
end Go.Proofs.Ythimblhfjfngiaa.PText

namespace Go.Proofs.Ythimblhfjfngiaa.PText
open Go.RowKit Go.Lib Go.Proofs.YthimblhfjfngiaaW.PrintWords Go.Proofs.YthimblhfjfngiaaW.PrintLast Go.Proofs.YthimblhfjfngiaaW.PrintMore
/-- a whole order of files that goes by names first -/
def ltFL (x y : S53) : Bool := decide (x.f0.toList < y.f0.toList) || (decide (x.f0.toList = y.f0.toList) && decide (x.f1.toList < y.f1.toList))
theorem ltFL_iff (x y : S53) : ltFL x y = true ↔ x.f0.toList < y.f0.toList ∨ (x.f0.toList = y.f0.toList ∧ x.f1.toList < y.f1.toList) := by
  unfold ltFL
  simp only [Bool.or_eq_true, Bool.and_eq_true, decide_eq_true_eq]
theorem toList_inj {a b : ByteArray} (h : a.toList = b.toList) : a = b := by
  rw [Lib.toList_data, Lib.toList_data] at h
  exact ByteArray.ext (Array.toList_inj.1 h)
theorem ltFL_lin : Tx.Lin ltFL where
  irr a := by
    cases h : ltFL a a with
    | false => rfl
    | true =>
      rcases (ltFL_iff _ _).1 h with k | ⟨_, k⟩
      · exact absurd k (List.lt_irrefl _)
      · exact absurd k (List.lt_irrefl _)
  tr := by
    intro a b c h1 h2
    rw [ltFL_iff] at h1 h2 ⊢
    rcases h1 with h1 | ⟨e1, h1⟩
    · rcases h2 with h2 | ⟨e2, h2⟩
      · exact Or.inl (List.lt_trans h1 h2)
      · exact Or.inl (by rw [← e2]; exact h1)
    · rcases h2 with h2 | ⟨e2, h2⟩
      · exact Or.inl (by rw [e1]; exact h2)
      · exact Or.inr ⟨e1.trans e2, List.lt_trans h1 h2⟩
  tri := by
    intro a b h1 h2
    have n1 : ¬ (a.f0.toList < b.f0.toList ∨ (a.f0.toList = b.f0.toList ∧ a.f1.toList < b.f1.toList)) := fun q => by rw [(ltFL_iff _ _).2 q] at h1; cases h1
    have n2 : ¬ (b.f0.toList < a.f0.toList ∨ (b.f0.toList = a.f0.toList ∧ b.f1.toList < a.f1.toList)) := fun q => by rw [(ltFL_iff _ _).2 q] at h2; cases h2
    have e0 : a.f0.toList = b.f0.toList := List.le_antisymm (List.not_lt.1 fun q => n2 (Or.inl q)) (List.not_lt.1 fun q => n1 (Or.inl q))
    have e1 : a.f1.toList = b.f1.toList := List.le_antisymm (List.not_lt.1 fun q => n2 (Or.inr ⟨e0.symm, q⟩)) (List.not_lt.1 fun q => n1 (Or.inr ⟨e0, q⟩))
    exact S53.ext' (toList_inj e0) (toList_inj e1)
/-- the names of files -/
def fnames (l : List S53) : List (List UInt8) := l.map fun x => x.f0.toList
/-- files by their names -/
def srtF (l : List S53) : List S53 := Tx.ord ltFL l
/-- a row that is sorted by names -/
def SortedF (d : List S53) : Prop := ∀ i j, i < j → ∀ hj : j < d.length, ∀ hi : i < d.length, ltF d[j] d[i] = false
theorem sorted_le {d : List S53} (h : SortedF d) {i j : Nat} (hij : i < j) (hj : j < d.length) : d[i].f0.toList ≤ d[j].f0.toList :=
  List.not_lt.1 (of_decide_eq_false (h i j hij hj (by omega)))
/-- no two neighbours have one name -/
def NoNext (d : List S53) : Prop := ∀ i, ∀ h : i + 1 < d.length, d[i + 1].f0.toList ≠ d[i].f0.toList
theorem strict_of {d : List S53} (h : SortedF d) (hn : NoNext d) : ∀ (m i : Nat), ∀ hj : i + m + 1 < d.length, d[i].f0.toList < d[i + m + 1].f0.toList := by
  intro m
  induction m with
  | zero =>
    intro i hj
    have h1 := sorted_le h (show i < i + 0 + 1 by omega) hj
    rcases List.le_iff_lt_or_eq.1 h1 with q | q
    · exact q
    · exact absurd q.symm (hn i hj)
  | succ m ih =>
    intro i hj
    have h1 := ih i (by omega)
    have h2 := sorted_le h (show i + m + 1 < i + (m + 1) + 1 by omega) hj
    rcases List.le_iff_lt_or_eq.1 h2 with q | q
    · exact List.lt_trans h1 q
    · rw [← q]; exact h1
theorem nodup_of {d : List S53} (h : SortedF d) (hn : NoNext d) : (fnames d).Nodup := by
  unfold fnames
  rw [List.nodup_iff_pairwise_ne, List.pairwise_iff_getElem]
  intro i j hi hj hij
  rw [List.getElem_map, List.getElem_map]
  rw [List.length_map] at hi hj
  obtain ⟨m, rfl⟩ : ∃ m, j = i + m + 1 := ⟨j - i - 1, by omega⟩
  intro e
  have := strict_of h hn m i hj
  rw [e] at this
  exact List.lt_irrefl _ this
theorem noNext_of {d : List S53} (h : (fnames d).Nodup) : NoNext d := by
  intro i hi e
  unfold fnames at h
  rw [List.nodup_iff_pairwise_ne, List.pairwise_iff_getElem] at h
  have := h i (i + 1) (by rw [List.length_map]; omega) (by rw [List.length_map]; omega) (by omega)
  rw [List.getElem_map, List.getElem_map] at this
  exact this e.symm
theorem perm_names {d l : List S53} (h : d.Perm l) : (fnames d).Perm (fnames l) := h.map _
theorem srt_eq {d l : List S53} (hp : d.Perm l) (h : SortedF d) (hn : (fnames l).Nodup) : d = srtF l := by
  have hd : (fnames d).Nodup := (perm_names hp).nodup_iff.2 hn
  have hs := strict_of h (noNext_of hd)
  refine Tx.ord_of_asc ltFL_lin ?_ fun a => hp.mem_iff
  unfold Tx.Asc
  rw [List.pairwise_iff_getElem]
  intro i j hi hj hij
  obtain ⟨m, rfl⟩ : ∃ m, j = i + m + 1 := ⟨j - i - 1, by omega⟩
  exact (ltFL_iff _ _).2 (Or.inl (hs m i hj))
theorem first_empty {d l : List S53} (hp : d.Perm l) (h : SortedF d) : (∃ hd : 0 < d.length, d[0].f0.toList = []) ↔ ∃ x ∈ l, x.f0.toList = [] := by
  constructor
  · rintro ⟨hd, e⟩
    exact ⟨d[0], hp.mem_iff.1 (List.getElem_mem hd), e⟩
  · rintro ⟨x, hx, e⟩
    obtain ⟨j, hj, rfl⟩ := List.mem_iff_getElem.1 (hp.mem_iff.2 hx)
    refine ⟨by omega, ?_⟩
    by_cases h0 : j = 0
    · subst h0; exact e
    · have := sorted_le h (show 0 < j by omega) hj
      rw [e] at this
      cases q : d[0].f0.toList with
      | nil => rfl
      | cons c r =>
        rw [q] at this
        exact absurd (List.nil_lt_cons c r) (List.not_lt.2 this)
end Go.Proofs.Ythimblhfjfngiaa.PText

