/- Chapter 02: what the claims share. Part 6 of 11. -/
import Derived.Test.YtabnmkakgcifoaaDoorBLexE
import Derived.Shelf.Strings.Builder1
import Derived.Shelf.Small.Strs
import Derived.Shelf.Strings.BuilderF
import Derived.Shelf.Strings.BuilderK
import Derived.Shelf.Strings.Search1
import Derived.Shelf.Strings.Search2
import Derived.Shelf.Strings.Search3
import Derived.Shelf.LaysM
import Derived.Shelf.Strings.Shaped
import Derived.Shelf.Strings.Prefix
import Derived.Shelf.Strings.Fields
import Derived.Shelf.Unicode.Latin
import Derived.Shelf.Unicode.Is16White
import Derived.Shelf.Unicode.IsSpaceAny
import Derived.Shelf.Unicode.Is16Any
import Derived.Shelf.Unicode.Is32Any
import Derived.Shelf.Unicode.ExclAny
import Derived.Shelf.Strings.BuilderCap
import Derived.Shelf.Slices.Turned
namespace Go.Proofs
open Go.Shelf
def Tryd.lays169_ren : Go.Shelf.Ren := ⟨fun | 169 => 43 | n => n, fun | 70 => 58 | 9 => 9 | 0 => 0 | 72 => 60 | 37 => 32 | 127 => 79 | 3 => 3 | 5 => 5 | n => n, fun | n => n⟩
theorem Tryd.lays169 : Go.Proofs.Lays.n169 Tryd.prog Tryd.lays169_ren := {
  mixed := by kernel_rfl
  f169 := Tryd.func43.trans (congrArg some (by kernel_rfl))
  t0 := Tryd.underlying0
  a0 := Tryd.isAgg0
  z0 := Tryd.sizeOf0
  v0 := Tryd.zeroValue0
  t3 := Tryd.underlying3
  a3 := Tryd.isAgg3
  z3 := Tryd.sizeOf3
  v3 := Tryd.zeroValue3
  t9 := Tryd.underlying9
  a9 := Tryd.isAgg9
  z9 := Tryd.sizeOf9
  v9 := Tryd.zeroValue9
  t37 := Tryd.underlying32
  a37 := Tryd.isAgg32
  z37 := Tryd.sizeOf32
  v37 := Tryd.zeroValue32
  t70 := Tryd.underlying58
  a70 := Tryd.isAgg58
  z70 := Tryd.sizeOf58
  v70 := Tryd.zeroValue58
  t72 := Tryd.underlying60
  a72 := Tryd.isAgg60
  z72 := Tryd.sizeOf60
  v72 := Tryd.zeroValue60
  t127 := Tryd.underlying79
  a127 := Tryd.isAgg79
  z127 := Tryd.sizeOf79
  v127 := Tryd.zeroValue79 }
theorem Tryd.Builder_Extra_169 : Builder.Extra Tryd.prog Tryd.lays169_ren := {
  sizeBuilder := by kernel_rfl
  liesBuilder := by kernel_rfl
  t5 := Tryd.underlying5
  a5 := Tryd.isAgg5
  z5 := Tryd.sizeOf5
  v5 := Tryd.zeroValue5
  infoByte := by kernel_rfl
  cellsByte := by kernel_rfl
  sizeByte := by kernel_rfl
  neB5 := by decide }
def Tryd.lays137_ren : Go.Shelf.Ren := ⟨fun | 137 => 59 | 217 => 76 | 266 => 86 | n => n, fun | 9 => 9 | 5 => 5 | 3 => 3 | n => n, fun | n => n⟩
theorem Tryd.lays137 : Go.Proofs.Lays.n137 Tryd.prog Tryd.lays137_ren := {
  mixed := by kernel_rfl
  f137 := Tryd.func59.trans (congrArg some (by kernel_rfl))
  f217 := Tryd.func76.trans (congrArg some (by kernel_rfl))
  f266 := Tryd.func86.trans (congrArg some (by kernel_rfl))
  t3 := Tryd.underlying3
  a3 := Tryd.isAgg3
  z3 := Tryd.sizeOf3
  v3 := Tryd.zeroValue3
  t5 := Tryd.underlying5
  a5 := Tryd.isAgg5
  z5 := Tryd.sizeOf5
  v5 := Tryd.zeroValue5
  t9 := Tryd.underlying9
  a9 := Tryd.isAgg9
  z9 := Tryd.sizeOf9
  v9 := Tryd.zeroValue9 }
open Go.RowKit in
theorem Tryd.strings_IndexByte (s : ByteArray) (c : Int) (w : World) :
    Calls Tryd.prog 59 #[.string s, .int .u8 c] w fun e w' => e = .returned (.int .i64 (Lib.indexByte s.data.toList c.toNat.toUInt8)) ∧ w' = w := Any.strings_IndexByte Tryd.lays137 s c w
open Go.RowKit in
theorem Tryd.Builder_String_any_k (B b : Nat) (l : List UInt8) (w : World) (h : Lib.IsBuilderF 60 5 B b (Lib.byteCells l) w) (hBw : B ≤ w.heap.size) :
    Calls Tryd.prog 43 #[.pointer (some ⟨b, 0, none⟩)] w fun e w' => e = .returned (.string ⟨l.toArray⟩) ∧ (Lib.IsBuilderF 60 5 B b (Lib.byteCells l) w' ∧ Below B w w' ∧ Lib.OthersKept 5 (some b) w w') := Any.Builder_String_any_k Tryd.lays169 Tryd.Builder_Extra_169 B b l w h hBw
def Tryd.lays217_ren : Go.Shelf.Ren := ⟨fun | 217 => 76 | 266 => 86 | n => n, fun | 9 => 9 | 5 => 5 | 3 => 3 | n => n, fun | n => n⟩
theorem Tryd.lays217 : Go.Proofs.Lays.n217 Tryd.prog Tryd.lays217_ren := {
  mixed := by kernel_rfl
  f217 := Tryd.func76.trans (congrArg some (by kernel_rfl))
  f266 := Tryd.func86.trans (congrArg some (by kernel_rfl))
  t3 := Tryd.underlying3
  a3 := Tryd.isAgg3
  z3 := Tryd.sizeOf3
  v3 := Tryd.zeroValue3
  t5 := Tryd.underlying5
  a5 := Tryd.isAgg5
  z5 := Tryd.sizeOf5
  v5 := Tryd.zeroValue5
  t9 := Tryd.underlying9
  a9 := Tryd.isAgg9
  z9 := Tryd.sizeOf9
  v9 := Tryd.zeroValue9 }
open Go.RowKit Go.Lib in
theorem Tryd.stringslite_IndexByte (s : ByteArray) (c : Int) (w : World) :
    Calls Tryd.prog 76 #[.string s, .int .u8 c] w fun e w' => e = .returned (.int .i64 (Lib.indexByte s.data.toList c.toNat.toUInt8)) ∧ w' = w := Any.stringslite_IndexByte Tryd.lays217 s c w
def Tryd.lays224_ren : Go.Shelf.Ren := ⟨fun | 224 => 89 | n => n, fun | 3 => 3 | n => n, fun | n => n⟩
theorem Tryd.lays224 : Go.Proofs.Lays.n224 Tryd.prog Tryd.lays224_ren := {
  mixed := by kernel_rfl
  f224 := Tryd.func89.trans (congrArg some (by kernel_rfl))
  t3 := Tryd.underlying3
  a3 := Tryd.isAgg3
  z3 := Tryd.sizeOf3
  v3 := Tryd.zeroValue3 }
open Go.RowKit Go.Lib in
theorem Tryd.bytealg_Cutover (n : Int) (h0 : 0 ≤ n) (h1 : n < 4611686018427387904) (w : World) :
    Calls Tryd.prog 89 #[.int .i64 n] w fun e w' => e = .returned (.int .i64 ((n + 16) / 8)) ∧ w' = w := Any.bytealg_Cutover Tryd.lays224 n h0 h1 w
def Tryd.lays314_ren : Go.Shelf.Ren := ⟨fun | 314 => 91 | n => n, fun | 9 => 9 | 51 => 87 | 3 => 3 | 4 => 4 | 5 => 5 | 46 => 106 | n => n, fun | n => n⟩
def Tryd.lays267_ren : Go.Shelf.Ren := ⟨fun | 267 => 90 | 314 => 91 | n => n, fun | 9 => 9 | 3 => 3 | 146 => 109 | 51 => 87 | 4 => 4 | 5 => 5 | 46 => 106 | n => n, fun | n => n⟩
def Tryd.lays219_ren : Go.Shelf.Ren := ⟨fun | 219 => 87 | 217 => 76 | 225 => 88 | 224 => 89 | 267 => 90 | 266 => 86 | 314 => 91 | n => n, fun | 9 => 9 | 3 => 3 | 4 => 4 | 5 => 5 | 46 => 106 | 146 => 109 | 51 => 87 | n => n, fun | 1 => 2 | n => n⟩
theorem Tryd.lays219 : Go.Proofs.Lays.n219 Tryd.prog Tryd.lays219_ren := {
  mixed := by kernel_rfl
  f217 := Tryd.func76.trans (congrArg some (by kernel_rfl))
  f219 := Tryd.func87.trans (congrArg some (by kernel_rfl))
  f224 := Tryd.func89.trans (congrArg some (by kernel_rfl))
  f225 := Tryd.func88.trans (congrArg some (by kernel_rfl))
  f266 := Tryd.func86.trans (congrArg some (by kernel_rfl))
  f267 := Tryd.func90.trans (congrArg some (by kernel_rfl))
  f314 := Tryd.func91.trans (congrArg some (by kernel_rfl))
  t3 := Tryd.underlying3
  a3 := Tryd.isAgg3
  z3 := Tryd.sizeOf3
  v3 := Tryd.zeroValue3
  t4 := Tryd.underlying4
  a4 := Tryd.isAgg4
  z4 := Tryd.sizeOf4
  v4 := Tryd.zeroValue4
  t5 := Tryd.underlying5
  a5 := Tryd.isAgg5
  z5 := Tryd.sizeOf5
  v5 := Tryd.zeroValue5
  t9 := Tryd.underlying9
  a9 := Tryd.isAgg9
  z9 := Tryd.sizeOf9
  v9 := Tryd.zeroValue9
  t46 := Tryd.underlying106
  a46 := Tryd.isAgg106
  z46 := Tryd.sizeOf106
  v46 := Tryd.zeroValue106
  t51 := Tryd.underlying87
  a51 := Tryd.isAgg87
  z51 := Tryd.sizeOf87
  v51 := Tryd.zeroValue87
  t146 := Tryd.underlying109
  a146 := Tryd.isAgg109
  z146 := Tryd.sizeOf109
  v146 := Tryd.zeroValue109
  g1 := by kernel_rfl }
open Go.RowKit Go.Lib in
theorem Tryd.stringslite_Index (s sub : ByteArray) (m : Int) (w : World) (hs : s.size < 4294967281) (hm : w.cell? ⟨2, 0, none⟩ = some (.int .i64 m)) :
    Calls Tryd.prog 87 #[.string s, .string sub] w fun e w' => e = .returned (.int .i64 (Lib.index s.data.toList sub.data.toList)) ∧ w' = w := Any.stringslite_Index Tryd.lays219 s sub m w hs hm
def Tryd.lays143_ren : Go.Shelf.Ren := ⟨fun | 143 => 78 | 219 => 87 | 217 => 76 | 225 => 88 | 224 => 89 | 267 => 90 | 266 => 86 | 314 => 91 | n => n, fun | 9 => 9 | 3 => 3 | 4 => 4 | 5 => 5 | 46 => 106 | 146 => 109 | 51 => 87 | n => n, fun | 1 => 2 | n => n⟩
theorem Tryd.lays143 : Go.Proofs.Lays.n143 Tryd.prog Tryd.lays143_ren := {
  mixed := by kernel_rfl
  f143 := Tryd.func78.trans (congrArg some (by kernel_rfl))
  f217 := Tryd.func76.trans (congrArg some (by kernel_rfl))
  f219 := Tryd.func87.trans (congrArg some (by kernel_rfl))
  f224 := Tryd.func89.trans (congrArg some (by kernel_rfl))
  f225 := Tryd.func88.trans (congrArg some (by kernel_rfl))
  f266 := Tryd.func86.trans (congrArg some (by kernel_rfl))
  f267 := Tryd.func90.trans (congrArg some (by kernel_rfl))
  f314 := Tryd.func91.trans (congrArg some (by kernel_rfl))
  t3 := Tryd.underlying3
  a3 := Tryd.isAgg3
  z3 := Tryd.sizeOf3
  v3 := Tryd.zeroValue3
  t4 := Tryd.underlying4
  a4 := Tryd.isAgg4
  z4 := Tryd.sizeOf4
  v4 := Tryd.zeroValue4
  t5 := Tryd.underlying5
  a5 := Tryd.isAgg5
  z5 := Tryd.sizeOf5
  v5 := Tryd.zeroValue5
  t9 := Tryd.underlying9
  a9 := Tryd.isAgg9
  z9 := Tryd.sizeOf9
  v9 := Tryd.zeroValue9
  t46 := Tryd.underlying106
  a46 := Tryd.isAgg106
  z46 := Tryd.sizeOf106
  v46 := Tryd.zeroValue106
  t51 := Tryd.underlying87
  a51 := Tryd.isAgg87
  z51 := Tryd.sizeOf87
  v51 := Tryd.zeroValue87
  t146 := Tryd.underlying109
  a146 := Tryd.isAgg109
  z146 := Tryd.sizeOf109
  v146 := Tryd.zeroValue109
  g1 := by kernel_rfl }
open Go.RowKit Go.Lib in
theorem Tryd.strings_Index (s sub : ByteArray) (m : Int) (w : World) (hs : s.size < 4294967281) (hm : w.cell? ⟨2, 0, none⟩ = some (.int .i64 m)) :
    Calls Tryd.prog 78 #[.string s, .string sub] w fun e w' => e = .returned (.int .i64 (Lib.index s.data.toList sub.data.toList)) ∧ w' = w := Any.strings_Index Tryd.lays143 s sub m w hs hm
def Tryd.lays144_ren : Go.Shelf.Ren := ⟨fun | 144 => 79 | 143 => 78 | 219 => 87 | 217 => 76 | 225 => 88 | 224 => 89 | 267 => 90 | 266 => 86 | 314 => 91 | n => n, fun | 9 => 9 | 4 => 4 | 3 => 3 | 5 => 5 | 46 => 106 | 146 => 109 | 51 => 87 | n => n, fun | 1 => 2 | n => n⟩
theorem Tryd.lays144 : Go.Proofs.Lays.n144 Tryd.prog Tryd.lays144_ren := {
  mixed := by kernel_rfl
  f143 := Tryd.func78.trans (congrArg some (by kernel_rfl))
  f144 := Tryd.func79.trans (congrArg some (by kernel_rfl))
  f217 := Tryd.func76.trans (congrArg some (by kernel_rfl))
  f219 := Tryd.func87.trans (congrArg some (by kernel_rfl))
  f224 := Tryd.func89.trans (congrArg some (by kernel_rfl))
  f225 := Tryd.func88.trans (congrArg some (by kernel_rfl))
  f266 := Tryd.func86.trans (congrArg some (by kernel_rfl))
  f267 := Tryd.func90.trans (congrArg some (by kernel_rfl))
  f314 := Tryd.func91.trans (congrArg some (by kernel_rfl))
  t3 := Tryd.underlying3
  a3 := Tryd.isAgg3
  z3 := Tryd.sizeOf3
  v3 := Tryd.zeroValue3
  t4 := Tryd.underlying4
  a4 := Tryd.isAgg4
  z4 := Tryd.sizeOf4
  v4 := Tryd.zeroValue4
  t5 := Tryd.underlying5
  a5 := Tryd.isAgg5
  z5 := Tryd.sizeOf5
  v5 := Tryd.zeroValue5
  t9 := Tryd.underlying9
  a9 := Tryd.isAgg9
  z9 := Tryd.sizeOf9
  v9 := Tryd.zeroValue9
  t46 := Tryd.underlying106
  a46 := Tryd.isAgg106
  z46 := Tryd.sizeOf106
  v46 := Tryd.zeroValue106
  t51 := Tryd.underlying87
  a51 := Tryd.isAgg87
  z51 := Tryd.sizeOf87
  v51 := Tryd.zeroValue87
  t146 := Tryd.underlying109
  a146 := Tryd.isAgg109
  z146 := Tryd.sizeOf109
  v146 := Tryd.zeroValue109
  g1 := by kernel_rfl }
open Go.RowKit Go.Lib in
theorem Tryd.strings_Contains (s sub : ByteArray) (m : Int) (w : World) (hs : s.size < 4294967281) (hm : w.cell? ⟨2, 0, none⟩ = some (.int .i64 m)) :
    Calls Tryd.prog 79 #[.string s, .string sub] w fun e w' => e = .returned (.bool (Lib.contains s.data.toList sub.data.toList)) ∧ w' = w := Any.strings_Contains Tryd.lays144 s sub m w hs hm
def Tryd.laysM219_ren : Go.Shelf.Ren := ⟨fun | 219 => 87 | 217 => 76 | 225 => 88 | 224 => 89 | 267 => 90 | 266 => 86 | 314 => 91 | n => n, fun | 9 => 9 | 3 => 3 | 4 => 4 | 5 => 5 | 46 => 106 | 146 => 109 | 51 => 87 | n => n, fun | 1 => 2 | n => n⟩
def Tryd.laysM143_ren : Go.Shelf.Ren := ⟨fun | 143 => 78 | 219 => 87 | 217 => 76 | 225 => 88 | 224 => 89 | 267 => 90 | 266 => 86 | 314 => 91 | n => n, fun | 9 => 9 | 3 => 3 | 4 => 4 | 5 => 5 | 46 => 106 | 146 => 109 | 51 => 87 | n => n, fun | 1 => 2 | n => n⟩
def Tryd.laysM144_ren : Go.Shelf.Ren := ⟨fun | 144 => 79 | 143 => 78 | 219 => 87 | 217 => 76 | 225 => 88 | 224 => 89 | 267 => 90 | 266 => 86 | 314 => 91 | n => n, fun | 9 => 9 | 4 => 4 | 3 => 3 | 5 => 5 | 46 => 106 | 146 => 109 | 51 => 87 | n => n, fun | 1 => 2 | n => n⟩
theorem Tryd.laysM144 : Go.Proofs.LaysM.n144 Tryd.prog Tryd.laysM144_ren := {
  mixed := by kernel_rfl
  f143 := Tryd.func78.trans (congrArg some (by kernel_rfl))
  f144 := Tryd.func79.trans (congrArg some (by kernel_rfl))
  f217 := Tryd.func76.trans (congrArg some (by kernel_rfl))
  f219 := Tryd.func87.trans (congrArg some (by kernel_rfl))
  f224 := Tryd.func89.trans (congrArg some (by kernel_rfl))
  f225 := Tryd.func88.trans (congrArg some (by kernel_rfl))
  f266 := Tryd.func86.trans (congrArg some (by kernel_rfl))
  f267 := Tryd.func90.trans (congrArg some (by kernel_rfl))
  f314 := Tryd.func91.trans (congrArg some (by kernel_rfl))
  t3 := Tryd.underlying3
  a3 := Tryd.isAgg3
  z3 := Tryd.sizeOf3
  v3 := Tryd.zeroValue3
  t4 := Tryd.underlying4
  a4 := Tryd.isAgg4
  z4 := Tryd.sizeOf4
  v4 := Tryd.zeroValue4
  t5 := Tryd.underlying5
  a5 := Tryd.isAgg5
  z5 := Tryd.sizeOf5
  v5 := Tryd.zeroValue5
  t9 := Tryd.underlying9
  a9 := Tryd.isAgg9
  z9 := Tryd.sizeOf9
  v9 := Tryd.zeroValue9
  t46 := Tryd.underlying106
  a46 := Tryd.isAgg106
  z46 := Tryd.sizeOf106
  v46 := Tryd.zeroValue106
  t51 := Tryd.underlying87
  a51 := Tryd.isAgg87
  z51 := Tryd.sizeOf87
  v51 := Tryd.zeroValue87
  t146 := Tryd.underlying109
  a146 := Tryd.isAgg109
  z146 := Tryd.sizeOf109
  v146 := Tryd.zeroValue109
  g1 := by kernel_rfl
  i3 := by kernel_rfl
  i4 := by kernel_rfl
  i5 := by kernel_rfl
  i9 := by kernel_rfl
  i46 := by kernel_rfl
  i51 := by kernel_rfl
  i146 := by kernel_rfl
  m1 := by kernel_rfl
  s1_3 := fun w h => Go.Proofs.cell_of_shapedOpen_int (zero := #[.int .i64 0]) (t := 3) h (of_decide_eq_true (by kernel_rfl)) (by kernel_rfl) rfl (by kernel_rfl) (by kernel_rfl) Tryd.underlying3 }
def Tryd.lays206_ren : Go.Shelf.Ren := ⟨fun | 206 => 82 | n => n, fun | 9 => 9 | 4 => 4 | 3 => 3 | n => n, fun | n => n⟩
theorem Tryd.lays206 : Go.Proofs.Lays.n206 Tryd.prog Tryd.lays206_ren := {
  mixed := by kernel_rfl
  f206 := Tryd.func82.trans (congrArg some (by kernel_rfl))
  t3 := Tryd.underlying3
  a3 := Tryd.isAgg3
  z3 := Tryd.sizeOf3
  v3 := Tryd.zeroValue3
  t4 := Tryd.underlying4
  a4 := Tryd.isAgg4
  z4 := Tryd.sizeOf4
  v4 := Tryd.zeroValue4
  t9 := Tryd.underlying9
  a9 := Tryd.isAgg9
  z9 := Tryd.sizeOf9
  v9 := Tryd.zeroValue9 }
open Go.RowKit Go.Lib in
theorem Tryd.stringslite_HasPrefix (s p : ByteArray) (w : World) :
    Calls Tryd.prog 82 #[.string s, .string p] w fun e w' => e = .returned (.bool (Lib.hasPrefix s.data.toList p.data.toList)) ∧ w' = w := Any.stringslite_HasPrefix Tryd.lays206 s p w
def Tryd.lays99_ren : Go.Shelf.Ren := ⟨fun | 99 => 69 | 206 => 82 | n => n, fun | 9 => 9 | 4 => 4 | 3 => 3 | n => n, fun | n => n⟩
theorem Tryd.lays99 : Go.Proofs.Lays.n99 Tryd.prog Tryd.lays99_ren := {
  mixed := by kernel_rfl
  f99 := Tryd.func69.trans (congrArg some (by kernel_rfl))
  f206 := Tryd.func82.trans (congrArg some (by kernel_rfl))
  t3 := Tryd.underlying3
  a3 := Tryd.isAgg3
  z3 := Tryd.sizeOf3
  v3 := Tryd.zeroValue3
  t4 := Tryd.underlying4
  a4 := Tryd.isAgg4
  z4 := Tryd.sizeOf4
  v4 := Tryd.zeroValue4
  t9 := Tryd.underlying9
  a9 := Tryd.isAgg9
  z9 := Tryd.sizeOf9
  v9 := Tryd.zeroValue9 }
open Go.RowKit Go.Lib in
theorem Tryd.strings_HasPrefix (s p : ByteArray) (w : World) :
    Calls Tryd.prog 69 #[.string s, .string p] w fun e w' => e = .returned (.bool (Lib.hasPrefix s.data.toList p.data.toList)) ∧ w' = w := Any.strings_HasPrefix Tryd.lays99 s p w
def Tryd.lays207_ren : Go.Shelf.Ren := ⟨fun | 207 => 81 | n => n, fun | 9 => 9 | 4 => 4 | 3 => 3 | n => n, fun | n => n⟩
theorem Tryd.lays207 : Go.Proofs.Lays.n207 Tryd.prog Tryd.lays207_ren := {
  mixed := by kernel_rfl
  f207 := Tryd.func81.trans (congrArg some (by kernel_rfl))
  t3 := Tryd.underlying3
  a3 := Tryd.isAgg3
  z3 := Tryd.sizeOf3
  v3 := Tryd.zeroValue3
  t4 := Tryd.underlying4
  a4 := Tryd.isAgg4
  z4 := Tryd.sizeOf4
  v4 := Tryd.zeroValue4
  t9 := Tryd.underlying9
  a9 := Tryd.isAgg9
  z9 := Tryd.sizeOf9
  v9 := Tryd.zeroValue9 }
open Go.RowKit Go.Lib in
theorem Tryd.stringslite_HasSuffix (s p : ByteArray) (w : World) (hs : s.size ≤ 9223372036854775807) :
    Calls Tryd.prog 81 #[.string s, .string p] w fun e w' => e = .returned (.bool (Lib.hasSuffix s.data.toList p.data.toList)) ∧ w' = w := Any.stringslite_HasSuffix Tryd.lays207 s p w hs
def Tryd.lays100_ren : Go.Shelf.Ren := ⟨fun | 100 => 67 | 207 => 81 | n => n, fun | 9 => 9 | 4 => 4 | 3 => 3 | n => n, fun | n => n⟩
theorem Tryd.lays100 : Go.Proofs.Lays.n100 Tryd.prog Tryd.lays100_ren := {
  mixed := by kernel_rfl
  f100 := Tryd.func67.trans (congrArg some (by kernel_rfl))
  f207 := Tryd.func81.trans (congrArg some (by kernel_rfl))
  t3 := Tryd.underlying3
  a3 := Tryd.isAgg3
  z3 := Tryd.sizeOf3
  v3 := Tryd.zeroValue3
  t4 := Tryd.underlying4
  a4 := Tryd.isAgg4
  z4 := Tryd.sizeOf4
  v4 := Tryd.zeroValue4
  t9 := Tryd.underlying9
  a9 := Tryd.isAgg9
  z9 := Tryd.sizeOf9
  v9 := Tryd.zeroValue9 }
open Go.RowKit Go.Lib in
theorem Tryd.strings_HasSuffix (s p : ByteArray) (w : World) (hs : s.size ≤ 9223372036854775807) :
    Calls Tryd.prog 67 #[.string s, .string p] w fun e w' => e = .returned (.bool (Lib.hasSuffix s.data.toList p.data.toList)) ∧ w' = w := Any.strings_HasSuffix Tryd.lays100 s p w hs
def Tryd.lays209_ren : Go.Shelf.Ren := ⟨fun | 209 => 80 | 207 => 81 | n => n, fun | 9 => 9 | 4 => 4 | 3 => 3 | n => n, fun | n => n⟩
theorem Tryd.lays209 : Go.Proofs.Lays.n209 Tryd.prog Tryd.lays209_ren := {
  mixed := by kernel_rfl
  f207 := Tryd.func81.trans (congrArg some (by kernel_rfl))
  f209 := Tryd.func80.trans (congrArg some (by kernel_rfl))
  t3 := Tryd.underlying3
  a3 := Tryd.isAgg3
  z3 := Tryd.sizeOf3
  v3 := Tryd.zeroValue3
  t4 := Tryd.underlying4
  a4 := Tryd.isAgg4
  z4 := Tryd.sizeOf4
  v4 := Tryd.zeroValue4
  t9 := Tryd.underlying9
  a9 := Tryd.isAgg9
  z9 := Tryd.sizeOf9
  v9 := Tryd.zeroValue9 }
open Go.RowKit Go.Lib in
theorem Tryd.stringslite_TrimSuffix (s p : ByteArray) (w : World) (hs : s.size ≤ 9223372036854775807) :
    Calls Tryd.prog 80 #[.string s, .string p] w fun e w' => e = .returned (.string ⟨(Lib.trimSuffix s.data.toList p.data.toList).toArray⟩) ∧ w' = w := Any.stringslite_TrimSuffix Tryd.lays209 s p w hs
def Tryd.lays102_ren : Go.Shelf.Ren := ⟨fun | 102 => 66 | 209 => 80 | 207 => 81 | n => n, fun | 9 => 9 | 4 => 4 | 3 => 3 | n => n, fun | n => n⟩
theorem Tryd.lays102 : Go.Proofs.Lays.n102 Tryd.prog Tryd.lays102_ren := {
  mixed := by kernel_rfl
  f102 := Tryd.func66.trans (congrArg some (by kernel_rfl))
  f207 := Tryd.func81.trans (congrArg some (by kernel_rfl))
  f209 := Tryd.func80.trans (congrArg some (by kernel_rfl))
  t3 := Tryd.underlying3
  a3 := Tryd.isAgg3
  z3 := Tryd.sizeOf3
  v3 := Tryd.zeroValue3
  t4 := Tryd.underlying4
  a4 := Tryd.isAgg4
  z4 := Tryd.sizeOf4
  v4 := Tryd.zeroValue4
  t9 := Tryd.underlying9
  a9 := Tryd.isAgg9
  z9 := Tryd.sizeOf9
  v9 := Tryd.zeroValue9 }
open Go.RowKit Go.Lib in
theorem Tryd.strings_TrimSuffix (s p : ByteArray) (w : World) (hs : s.size ≤ 9223372036854775807) :
    Calls Tryd.prog 66 #[.string s, .string p] w fun e w' => e = .returned (.string ⟨(Lib.trimSuffix s.data.toList p.data.toList).toArray⟩) ∧ w' = w := Any.strings_TrimSuffix Tryd.lays102 s p w hs
def Tryd.lays157_ren : Go.Shelf.Ren := ⟨fun | 157 => 39 | 229 => 56 | 199 => 57 | 261 => 75 | 311 => 84 | 312 => 85 | n => n, fun | 9 => 9 | 31 => 35 | 3 => 3 | 5 => 5 | 4 => 4 | 119 => 72 | 0 => 0 | 40 => 74 | 152 => 84 | 21 => 21 | 154 => 86 | 51 => 87 | 141 => 89 | 196 => 97 | 193 => 94 | 198 => 100 | 49 => 98 | 194 => 95 | 201 => 103 | 226 => 105 | 46 => 106 | 227 => 107 | n => n, fun | 0 => 0 | 6 => 1 | n => n⟩
theorem Tryd.lays157 : Go.Proofs.Lays.n157 Tryd.prog Tryd.lays157_ren := {
  mixed := by kernel_rfl
  f157 := Tryd.func39.trans (congrArg some (by kernel_rfl))
  f199 := Tryd.func57.trans (congrArg some (by kernel_rfl))
  f229 := Tryd.func56.trans (congrArg some (by kernel_rfl))
  f261 := Tryd.func75.trans (congrArg some (by kernel_rfl))
  f311 := Tryd.func84.trans (congrArg some (by kernel_rfl))
  f312 := Tryd.func85.trans (congrArg some (by kernel_rfl))
  t0 := Tryd.underlying0
  a0 := Tryd.isAgg0
  z0 := Tryd.sizeOf0
  v0 := Tryd.zeroValue0
  t3 := Tryd.underlying3
  a3 := Tryd.isAgg3
  z3 := Tryd.sizeOf3
  v3 := Tryd.zeroValue3
  t4 := Tryd.underlying4
  a4 := Tryd.isAgg4
  z4 := Tryd.sizeOf4
  v4 := Tryd.zeroValue4
  t5 := Tryd.underlying5
  a5 := Tryd.isAgg5
  z5 := Tryd.sizeOf5
  v5 := Tryd.zeroValue5
  t9 := Tryd.underlying9
  a9 := Tryd.isAgg9
  z9 := Tryd.sizeOf9
  v9 := Tryd.zeroValue9
  t21 := Tryd.underlying21
  a21 := Tryd.isAgg21
  z21 := Tryd.sizeOf21
  v21 := Tryd.zeroValue21
  t31 := Tryd.underlying35
  a31 := Tryd.isAgg35
  z31 := Tryd.sizeOf35
  v31 := Tryd.zeroValue35
  t40 := Tryd.underlying74
  a40 := Tryd.isAgg74
  z40 := Tryd.sizeOf74
  v40 := Tryd.zeroValue74
  t46 := Tryd.underlying106
  a46 := Tryd.isAgg106
  z46 := Tryd.sizeOf106
  v46 := Tryd.zeroValue106
  t49 := Tryd.underlying98
  a49 := Tryd.isAgg98
  z49 := Tryd.sizeOf98
  v49 := Tryd.zeroValue98
  t51 := Tryd.underlying87
  a51 := Tryd.isAgg87
  z51 := Tryd.sizeOf87
  v51 := Tryd.zeroValue87
  t119 := Tryd.underlying72
  a119 := Tryd.isAgg72
  z119 := Tryd.sizeOf72
  t141 := Tryd.underlying89
  a141 := Tryd.isAgg89
  z141 := Tryd.sizeOf89
  v141 := Tryd.zeroValue89
  t152 := Tryd.underlying84
  a152 := Tryd.isAgg84
  z152 := Tryd.sizeOf84
  v152 := Tryd.zeroValue84
  t154 := Tryd.underlying86
  a154 := Tryd.isAgg86
  z154 := Tryd.sizeOf86
  v154 := Tryd.zeroValue86
  t193 := Tryd.underlying94
  a193 := Tryd.isAgg94
  z193 := Tryd.sizeOf94
  v193 := Tryd.zeroValue94
  t194 := Tryd.underlying95
  a194 := Tryd.isAgg95
  z194 := Tryd.sizeOf95
  v194 := Tryd.zeroValue95
  t196 := Tryd.underlying97
  a196 := Tryd.isAgg97
  z196 := Tryd.sizeOf97
  v196 := Tryd.zeroValue97
  t198 := Tryd.underlying100
  a198 := Tryd.isAgg100
  z198 := Tryd.sizeOf100
  v198 := Tryd.zeroValue100
  t201 := Tryd.underlying103
  a201 := Tryd.isAgg103
  z201 := Tryd.sizeOf103
  v201 := Tryd.zeroValue103
  t226 := Tryd.underlying105
  a226 := Tryd.isAgg105
  z226 := Tryd.sizeOf105
  v226 := Tryd.zeroValue105
  t227 := Tryd.underlying107
  a227 := Tryd.isAgg107
  z227 := Tryd.sizeOf107
  v227 := Tryd.zeroValue107
  g0 := by kernel_rfl
  g6 := by kernel_rfl }
open Go.RowKit Go.Lib in
theorem Tryd.strings_Fields (s : ByteArray) (w : World) (hs : s.size < 4294967281) (hascii : ∀ (j : Nat) b, s.data.toList[j]? = some b → b.toNat < 128) (htab : Lib.TabIs Tryd.prog w "strings.asciiSpace" .u8 Lib.asciiSpaceTab) :
    Calls Tryd.prog 39 #[.string s] w fun e w' =>
      e = .returned (.slice (some ⟨w.heap.size, 0, none⟩) (Lib.fields s.data.toList).length (Lib.fields s.data.toList).length) ∧ w' = w.alloc (.cells ((Lib.fields s.data.toList).map fun l => Value.string ⟨l.toArray⟩).toArray 9) := Any.strings_Fields Tryd.lays157 (by kernel_rfl) (by kernel_rfl) s w hs hascii htab
def Tryd.lays199_ren : Go.Shelf.Ren := ⟨fun | 199 => 57 | 261 => 75 | 311 => 84 | 312 => 85 | n => n, fun | 21 => 21 | 4 => 4 | 51 => 87 | 141 => 89 | 0 => 0 | 196 => 97 | 193 => 94 | 3 => 3 | 198 => 100 | 49 => 98 | 194 => 95 | 201 => 103 | 226 => 105 | 46 => 106 | 227 => 107 | n => n, fun | 6 => 1 | n => n⟩
theorem Tryd.lays199 : Go.Proofs.Lays.n199 Tryd.prog Tryd.lays199_ren := {
  mixed := by kernel_rfl
  f199 := Tryd.func57.trans (congrArg some (by kernel_rfl))
  f261 := Tryd.func75.trans (congrArg some (by kernel_rfl))
  f311 := Tryd.func84.trans (congrArg some (by kernel_rfl))
  f312 := Tryd.func85.trans (congrArg some (by kernel_rfl))
  t0 := Tryd.underlying0
  a0 := Tryd.isAgg0
  z0 := Tryd.sizeOf0
  v0 := Tryd.zeroValue0
  t3 := Tryd.underlying3
  a3 := Tryd.isAgg3
  z3 := Tryd.sizeOf3
  v3 := Tryd.zeroValue3
  t4 := Tryd.underlying4
  a4 := Tryd.isAgg4
  z4 := Tryd.sizeOf4
  v4 := Tryd.zeroValue4
  t21 := Tryd.underlying21
  a21 := Tryd.isAgg21
  z21 := Tryd.sizeOf21
  v21 := Tryd.zeroValue21
  t46 := Tryd.underlying106
  a46 := Tryd.isAgg106
  z46 := Tryd.sizeOf106
  v46 := Tryd.zeroValue106
  t49 := Tryd.underlying98
  a49 := Tryd.isAgg98
  z49 := Tryd.sizeOf98
  v49 := Tryd.zeroValue98
  t51 := Tryd.underlying87
  a51 := Tryd.isAgg87
  z51 := Tryd.sizeOf87
  v51 := Tryd.zeroValue87
  t141 := Tryd.underlying89
  a141 := Tryd.isAgg89
  z141 := Tryd.sizeOf89
  v141 := Tryd.zeroValue89
  t193 := Tryd.underlying94
  a193 := Tryd.isAgg94
  z193 := Tryd.sizeOf94
  v193 := Tryd.zeroValue94
  t194 := Tryd.underlying95
  a194 := Tryd.isAgg95
  z194 := Tryd.sizeOf95
  v194 := Tryd.zeroValue95
  t196 := Tryd.underlying97
  a196 := Tryd.isAgg97
  z196 := Tryd.sizeOf97
  v196 := Tryd.zeroValue97
  t198 := Tryd.underlying100
  a198 := Tryd.isAgg100
  z198 := Tryd.sizeOf100
  v198 := Tryd.zeroValue100
  t201 := Tryd.underlying103
  a201 := Tryd.isAgg103
  z201 := Tryd.sizeOf103
  v201 := Tryd.zeroValue103
  t226 := Tryd.underlying105
  a226 := Tryd.isAgg105
  z226 := Tryd.sizeOf105
  v226 := Tryd.zeroValue105
  t227 := Tryd.underlying107
  a227 := Tryd.isAgg107
  z227 := Tryd.sizeOf107
  v227 := Tryd.zeroValue107
  g6 := by kernel_rfl }
open Go.RowKit Go.Lib in
theorem Tryd.unicode_IsSpace (r : Int) (w : World) (h0 : 0 ≤ r) (h : r ≤ 255) :
    Calls Tryd.prog 57 #[.int .i32 r] w fun e w' => e = .returned (.bool (Lib.isSpaceL r)) ∧ w' = w := Any.unicode_IsSpace Tryd.lays199 r w h0 h
def Tryd.lays311_ren : Go.Shelf.Ren := ⟨fun | 311 => 84 | n => n, fun | 193 => 94 | 49 => 98 | 4 => 4 | 3 => 3 | 0 => 0 | 226 => 105 | 198 => 100 | 46 => 106 | n => n, fun | n => n⟩
def Tryd.lays261_ren : Go.Shelf.Ren := ⟨fun | 261 => 75 | 311 => 84 | 312 => 85 | n => n, fun | 141 => 89 | 21 => 21 | 4 => 4 | 0 => 0 | 196 => 97 | 193 => 94 | 3 => 3 | 51 => 87 | 198 => 100 | 49 => 98 | 194 => 95 | 201 => 103 | 226 => 105 | 46 => 106 | 227 => 107 | n => n, fun | n => n⟩
def Tryd.lays312_ren : Go.Shelf.Ren := ⟨fun | 312 => 85 | n => n, fun | 194 => 95 | 51 => 87 | 4 => 4 | 3 => 3 | 0 => 0 | 227 => 107 | 201 => 103 | 46 => 106 | n => n, fun | n => n⟩
def Tryd.lays109_ren : Go.Shelf.Ren := ⟨fun | 109 => 53 | n => n, fun | 31 => 35 | 9 => 9 | 3 => 3 | 0 => 0 | 4 => 4 | n => n, fun | n => n⟩
def Tryd.lays110_ren : Go.Shelf.Ren := ⟨fun | 110 => 35 | 109 => 53 | n => n, fun | 31 => 35 | 9 => 9 | 4 => 4 | 3 => 3 | 0 => 0 | n => n, fun | n => n⟩
end Go.Proofs

namespace Go.Proofs.YtabnmkakgcifoaaDoor.PLex
open Go.RowKit Go.Proofs.YtabnmkakgcifoaaDoorW.PrintWords Go.Proofs.YtabnmkakgcifoaaDoorW.PrintLast Go.Proofs.YtabnmkakgcifoaaDoorW.PrintMore
def strings_IndexByte.f (a0 : ByteArray) (a1 : Int) : Option Int := some (Lib.indexByte a0.data.toList a1.toNat.toUInt8)
theorem strings_IndexByte.calls (a0 : ByteArray) (a1 : Int) (r : Int) (w : World) (h : strings_IndexByte.f a0 a1 = some r) :
    Calls Tryd.prog 59 #[.string a0, .int .u8 a1] w fun e w' => e = .returned (.int .i64 r) ∧ Drawn0 w w' := by
  obtain rfl := Option.some.inj h
  refine (Tryd.strings_IndexByte a0 a1 w).mono ?_
  rintro e w' ⟨rfl, rfl⟩
  exact ⟨rfl, Drawn0.refl _⟩
end Go.Proofs.YtabnmkakgcifoaaDoor.PLex

namespace Go.Proofs.YtabnmkakgcifoaaDoor.PLex
open Go.RowKit Go.Proofs.YtabnmkakgcifoaaDoorW.PrintWords Go.Proofs.YtabnmkakgcifoaaDoorW.PrintLast Go.Proofs.YtabnmkakgcifoaaDoorW.PrintMore
attribute [local go_sem] max2_int min2_int max_two min_two max_three min_three max_four min_four   -- for this text's walks alone
set_option linter.unusedVariables false
set_option linter.unusedSimpArgs false

mutual
def lsc_line.j0 : Nat → Bool → ByteArray → Int → Option Nat → List ByteArray → Bool → Option (Int × ByteArray × Int × Option Nat × Bool)
 | 0, _, _, _, _, _, _ => none
 | k + 1, x16, x1000, x1001, x1002, x1003, x1004 => if x16 = true then (some (0, x1000, x1001, x1002, x1004)) else ((lsc_rest.f x1000 x1001 x1002 x1003 x1004).bind fun bt434 => (lsc_line.l0 k bt434.1 0 bt434.2.1 bt434.2.2.1 bt434.2.2.2.1 x1003 bt434.2.2.2.2))
def lsc_line.l0 : Nat → ByteArray → Int → ByteArray → Int → Option Nat → List ByteArray → Bool → Option (Int × ByteArray × Int × Option Nat × Bool)
 | 0, _, _, _, _, _, _, _ => none
 | k + 1, x3, x4, x1000, x1001, x1002, x1003, x1004 => if 0 ≤ x4 then (if x4 ≤ (x3.size : Int) then ((strings_IndexByte.f (x3.extract (x4 : Int).toNat x3.size) 10).bind fun t439 => (if t439 < 0 then (some ((x3.size : Int), x1000, x1001, x1002, x1004)) else (if 0 ≤ (wrap64 (x4 + t439)) then (if (wrap64 (x4 + t439)) ≤ (x3.size : Int) then ((strings_TrimSuffix.f (x3.extract 0 ((wrap64 (x4 + t439)) : Int).toNat) (⟨#[13]⟩ : ByteArray)).bind fun t440 => ((strings_HasSuffix.f (x3.extract 0 ((wrap64 (x4 + t439)) : Int).toNat) (⟨#[92]⟩ : ByteArray)).bind fun t441 => (if t441 = true then (lsc_line.l0 k x3 (wrap64 ((wrap64 (x4 + t439)) + 1)) x1000 x1001 x1002 x1003 x1004) else ((strings_HasSuffix.f t440 (⟨#[92]⟩ : ByteArray)).bind fun t442 => (if t442 = true then (lsc_line.l0 k x3 (wrap64 ((wrap64 (x4 + t439)) + 1)) x1000 x1001 x1002 x1003 x1004) else (some ((t440.size : Int), x1000, x1001, x1002, x1004))))))) else (none)) else (none)))) else (none)) else (none)
end
def lsc_line.f (k : Nat) (s0_0 : ByteArray) (s0_1 : Int) (s0_2 : Option Nat) (s0_3 : List ByteArray) (s0_4 : Bool) : Option (Int × ByteArray × Int × Option Nat × Bool) := if s0_4 = true then ((lsc_next.f s0_0 s0_1 s0_2 s0_3 s0_4 0).bind fun bt429 => (lsc_line.j0 k (bt429.1 != 35) bt429.2.1 bt429.2.2.1 bt429.2.2.2.1 s0_3 bt429.2.2.2.2)) else (lsc_line.j0 k true s0_0 s0_1 s0_2 s0_3 s0_4)
set_option maxHeartbeats 8000000 in
set_option maxRecDepth 100000 in
theorem lsc_line.calls (k : Nat) (g : Nat) (s0_0 : ByteArray) (s0_1 : Int) (s0_2 : Option Nat) (s0_3 : List ByteArray) (s0_4 : Bool) (r1 : Int) (r2 : ByteArray) (r3 : Int) (r4 : Option Nat) (r5 : Bool) (w0 w : World) (hI : IsS48 w0 w g s0_0 s0_1 s0_2 s0_3 s0_4) (hB : Below w0.heap.size w0 w) (h : lsc_line.f k s0_0 s0_1 s0_2 s0_3 s0_4 = some (r1, r2, r3, r4, r5)) :
  Calls Tryd.prog 45 #[.pointer (some ⟨g, 0, none⟩)] w fun e w' => e = .returned (.int .i64 r1) ∧ IsS48 w0 w' g r2 r3 r4 s0_3 r5 ∧ Below w0.heap.size w0 w' ∧ KeepBut w w' g none := by
 have HI0 := Aside0.mk hI
 have HK := Aside0.mk (KeepBut.refl w g none)
 have HL := Aside0.mk hB.size
 clear hI
 have HW0 := Aside0.mk hB.size
 have HB := Aside0.mk hB
 clear hB
 have H : (if s0_4 = true then ((lsc_next.f s0_0 s0_1 s0_2 s0_3 s0_4 0).bind fun bt429 => (lsc_line.j0 k (bt429.1 != 35) bt429.2.1 bt429.2.2.1 bt429.2.2.2.1 s0_3 bt429.2.2.2.2)) else (lsc_line.j0 k true s0_0 s0_1 s0_2 s0_3 s0_4)) = some (r1, r2, r3, r4, r5) := h
 clear h
 have HC2 := Aside0.mk H
 clear H
 go_enter Tryd.func45, Tryd.ntmps45
 go_upto_region 1 with (fail)
 go_cut [16] (fun v16 wc => ∃ (kq : Nat) (x16_1 : Bool) (x1000_1 : ByteArray) (x1001_1 : Int) (x1002_1 : Option Nat) (x1004_1 : Bool), v16 = .bool x16_1 ∧ Aside0 (lsc_line.j0 kq x16_1 x1000_1 x1001_1 x1002_1 s0_3 x1004_1 = some (r1, r2, r3, r4, r5)) ∧ Aside0 (kq ≤ k) ∧ Aside0 (IsS48 w0 wc g x1000_1 x1001_1 x1002_1 s0_3 x1004_1) ∧ Aside0 (KeepBut w wc g none) ∧ Aside0 (Below w0.heap.size w0 wc))
 case first =>
  have H := HC2.out
  clear HC2
  by_cases c3 : s0_4 = true
  ·subst c3
   have H1 : ((lsc_next.f s0_0 s0_1 s0_2 s0_3 true 0).bind fun bt429 => (lsc_line.j0 k (bt429.1 != 35) bt429.2.1 bt429.2.2.1 bt429.2.2.2.1 s0_3 bt429.2.2.2.2)) = some (r1, r2, r3, r4, r5) := by rw [if_pos rfl] at H; exact H
   clear H
   have H := H1
   clear H1
   replace H := Option.bind_eq_some_iff.mp H
   obtain ⟨⟨t429, t430, t431, t432, t433⟩, A40, H⟩ := H
   replace H : (lsc_line.j0 k (t429 != 35) t430 t431 t432 s0_3 t433) = some (r1, r2, r3, r4, r5) := H
   have A4 := Aside0.mk A40
   clear A40
   have H' := Aside0.mk H
   clear H
   obtain ⟨ASz5_3, cSz5_3, HGz5, hgz5, HSz5_3⟩ := HI0.out
   have hcz5_0 := cellS48_0 HGz5
   have hcz5_1 := cellS48_1 HGz5
   have hcz5_2 := cellS48_2 HGz5
   have hcz5_3 := cellS48_3 HGz5
   have hcz5_4 := cellS48_4 HGz5
   have hfz5_0 := blk_frozen HGz5 0
   have hfz5_1 := blk_frozen HGz5 1
   have hfz5_2 := blk_frozen HGz5 2
   have hfz5_4 := blk_frozen HGz5 4
   clear HGz5 hgz5
   go_wp2_with (first | (go_at_call 63; (with_reducible refine (lsc_next.calls g s0_0 s0_1 s0_2 s0_3 true 0 t429 t430 t431 t432 t433 w0 _ ?side1 ?side2 A4.out).mono ?_); (case side1 => repeat (first | (with_reducible first | exact HI0.out | apply IsS48.alloc | apply IsS48.drewN | apply IsS48.drew | apply IsS48.set_0 | apply IsS48.set_1 | apply IsS48.set_2 | apply IsS48.set_4) | exact HI0.out)); (case side2 => repeat (first | (with_reducible first | exact HB.out | apply below_alloc | apply pw_below_drewN | apply below_drew1 | refine below_set ?_ (IsS48.ge HI0.out)) | exact HB.out)); rintro e w6 ⟨rfl, hi, hb, hk⟩; have n0_ := Aside0.mk (KeepBut.trans (by repeat (first | (with_reducible first | exact HK.out | apply KeepBut.set_ | apply keep_drewN | apply keep_drew | apply keep_alloc) | exact HK.out)) hk (.inl rfl)); have n1_ := Aside0.mk (hb); have n2_ := Aside0.mk (hi); clear HK; clear HB; clear HI0; have HK := n0_; have HB := n1_; have HI0 := n2_; clear n0_ n1_ n2_; (try clear hb); (try clear hb2); (try clear hk); (try clear hi)))
   go_meet
   case rel => exact ⟨_, ((t429 != 35)), (t430), (t431), (t432), (t433), (by first | rfl | (simp; done) | (simp [*]; done)), H', ⟨by first | omega | exact Nat.le_refl _⟩, ⟨by repeat (first | (with_reducible first | exact HI0.out | apply IsS48.alloc | apply IsS48.drewN | apply IsS48.drew | apply IsS48.set_0 | apply IsS48.set_1 | apply IsS48.set_2 | apply IsS48.set_4) | exact HI0.out)⟩, ⟨by repeat (first | (with_reducible first | exact HK.out | apply KeepBut.set_ | apply keep_drewN | apply keep_drew | apply keep_alloc) | exact HK.out)⟩, ⟨by repeat (first | (with_reducible first | exact HB.out | apply below_alloc | apply pw_below_drewN | apply below_drew1 | refine below_set ?_ (IsS48.ge HI0.out)) | exact HB.out)⟩⟩
  ·replace c3 := Bool.eq_false_iff.mpr c3
   subst c3
   have H1 : (lsc_line.j0 k true s0_0 s0_1 s0_2 s0_3 false) = some (r1, r2, r3, r4, r5) := by rw [if_neg (show ¬ (false = true) by decide)] at H; exact H
   clear H
   have H := H1
   clear H1
   have H' := Aside0.mk H
   clear H
   obtain ⟨ASz7_3, cSz7_3, HGz7, hgz7, HSz7_3⟩ := HI0.out
   have hcz7_0 := cellS48_0 HGz7
   have hcz7_1 := cellS48_1 HGz7
   have hcz7_2 := cellS48_2 HGz7
   have hcz7_3 := cellS48_3 HGz7
   have hcz7_4 := cellS48_4 HGz7
   have hfz7_0 := blk_frozen HGz7 0
   have hfz7_1 := blk_frozen HGz7 1
   have hfz7_2 := blk_frozen HGz7 2
   have hfz7_4 := blk_frozen HGz7 4
   clear HGz7 hgz7
   go_wp2
   go_meet
   case rel => exact ⟨_, (true), (s0_0), (s0_1), (s0_2), (false), (by first | rfl | (simp; done) | (simp [*]; done)), H', ⟨by first | omega | exact Nat.le_refl _⟩, ⟨by repeat (first | (with_reducible first | exact HI0.out | apply IsS48.alloc | apply IsS48.drewN | apply IsS48.drew | apply IsS48.set_0 | apply IsS48.set_1 | apply IsS48.set_2 | apply IsS48.set_4) | exact HI0.out)⟩, ⟨by repeat (first | (with_reducible first | exact HK.out | apply KeepBut.set_ | apply keep_drewN | apply keep_drew | apply keep_alloc) | exact HK.out)⟩, ⟨by repeat (first | (with_reducible first | exact HB.out | apply below_alloc | apply pw_below_drewN | apply below_drew1 | refine below_set ?_ (IsS48.ge HI0.out)) | exact HB.out)⟩⟩
 case rest =>
  clear HC2
  try clear p2
  try clear c3
  try clear c4
  try clear hcz5_0
  try clear hcz5_1
  try clear hcz5_2
  try clear hcz5_3
  try clear hcz5_4
  try clear hcz7_0
  try clear hcz7_1
  try clear hcz7_2
  try clear hcz7_3
  try clear hcz7_4
  try clear hfz5_0
  try clear hfz5_1
  try clear hfz5_2
  try clear hfz5_4
  try clear hfz7_0
  try clear hfz7_1
  try clear hfz7_2
  try clear hfz7_4
  obtain ⟨kq, x16_1, x1000_1, x1001_1, x1002_1, x1004_1, rfl, HA, HJ1, HI0, HK, HB⟩ := hcut
  cases kq with
  | zero => exact absurd HA.out (by simp [lsc_line.j0])
  | succ kj1 =>
   have H := HA.out
   clear HA
   simp only [lsc_line.j0] at H
   by_cases c8 : x16_1 = true
   ·subst c8
    have H1 : (some (0, x1000_1, x1001_1, x1002_1, x1004_1)) = some (r1, r2, r3, r4, r5) := by rw [if_pos rfl] at H; exact H
    clear H
    have H := H1
    clear H1
    simp only [Option.some.injEq, Prod.mk.injEq] at H
    obtain ⟨rfl, rfl, rfl, rfl, rfl⟩ := H
    go_wp2
    go_ret
    exact ⟨by first | rfl | (simp [errW_none, errW_some] <;> rfl) | (simp [*, errW_none, errW_some] <;> rfl), by repeat (first | (with_reducible first | exact HI0.out | apply IsS48.alloc | apply IsS48.drewN | apply IsS48.drew | apply IsS48.set_0 | apply IsS48.set_1 | apply IsS48.set_2 | apply IsS48.set_4) | exact HI0.out), by repeat (first | (with_reducible first | exact HB.out | apply below_alloc | apply pw_below_drewN | apply below_drew1 | refine below_set ?_ (IsS48.ge HI0.out)) | exact HB.out), by repeat (first | (with_reducible first | exact HK.out | apply KeepBut.set_ | apply keep_drewN | apply keep_drew | apply keep_alloc) | exact HK.out)⟩
   ·replace c8 := Bool.eq_false_iff.mpr c8
    subst c8
    have H1 : ((lsc_rest.f x1000_1 x1001_1 x1002_1 s0_3 x1004_1).bind fun bt434 => (lsc_line.l0 kj1 bt434.1 0 bt434.2.1 bt434.2.2.1 bt434.2.2.2.1 s0_3 bt434.2.2.2.2)) = some (r1, r2, r3, r4, r5) := by rw [if_neg (show ¬ (false = true) by decide)] at H; exact H
    clear H
    have H := H1
    clear H1
    replace H := Option.bind_eq_some_iff.mp H
    obtain ⟨⟨t434, t435, t436, t437, t438⟩, A90, H⟩ := H
    replace H : (lsc_line.l0 kj1 t434 0 t435 t436 t437 s0_3 t438) = some (r1, r2, r3, r4, r5) := H
    have A9 := Aside0.mk A90
    clear A90
    have H' := Aside0.mk H
    clear H
    go_wp2_with (first | ((with_reducible refine gate_callee (f := 65) rfl ?_); refine goesL_ (some 18) rfl rfl Tryd.func65 (by kernel_rfl) rfl #[.pointer (some ⟨g, 0, none⟩)] rfl (by (try simp only [List.map_toArray, List.map_cons, List.map_nil]); first | done | rfl | (simp only [List.length_drop, List.length_take]; rfl)) ?_; (with_reducible refine (lsc_rest.calls g x1000_1 x1001_1 x1002_1 s0_3 x1004_1 t434 t435 t436 t437 t438 w0 _ ?side1 ?side2 A9.out).mono ?_); (case side1 => repeat (first | (with_reducible first | exact HI0.out | apply IsS48.alloc | apply IsS48.drewN | apply IsS48.drew | apply IsS48.set_0 | apply IsS48.set_1 | apply IsS48.set_2 | apply IsS48.set_4) | exact HI0.out)); (case side2 => repeat (first | (with_reducible first | exact HB.out | apply below_alloc | apply pw_below_drewN | apply below_drew1 | refine below_set ?_ (IsS48.ge HI0.out)) | exact HB.out)); rintro e w10 ⟨rfl, hi, hb, hk⟩; refine ⟨_, rfl, ?_⟩; have n0_ := Aside0.mk (KeepBut.trans (by repeat (first | (with_reducible first | exact HK.out | apply KeepBut.set_ | apply keep_drewN | apply keep_drew | apply keep_alloc) | exact HK.out)) hk (.inl rfl)); have n1_ := Aside0.mk (hb); have n2_ := Aside0.mk (hi); clear HK; clear HB; clear HI0; have HK := n0_; have HB := n1_; have HI0 := n2_; clear n0_ n1_ n2_; (try clear hb); (try clear hb2); (try clear hk); (try clear hi)))
    try simp only [Act.put, List.setIfInBounds_toArray, List.set_cons_succ, List.set_cons_zero]
    go_loopg [4] kj1 (fun kq v4 w' => ∃ (x4_2 : Int), v4 = .int .i64 x4_2 ∧ Aside0 (lsc_line.l0 kq t434 x4_2 t435 t436 t437 s0_3 t438 = some (r1, r2, r3, r4, r5)) ∧ Aside0 (kq ≤ kj1) ∧ Aside0 (IsS48 w0 w' g t435 t436 t437 s0_3 t438) ∧ Aside0 (KeepBut w w' g none) ∧ Aside0 (Below w0.heap.size w0 w'))
    case atStart => exact ⟨(0), (by first | rfl | (simp; done) | (simp [*]; done)), H', ⟨Nat.le_refl _⟩, ⟨by repeat (first | (with_reducible first | exact HI0.out | apply IsS48.alloc | apply IsS48.drewN | apply IsS48.drew | apply IsS48.set_0 | apply IsS48.set_1 | apply IsS48.set_2 | apply IsS48.set_4) | exact HI0.out)⟩, ⟨by repeat (first | (with_reducible first | exact HK.out | apply KeepBut.set_ | apply keep_drewN | apply keep_drew | apply keep_alloc) | exact HK.out)⟩, ⟨by repeat (first | (with_reducible first | exact HB.out | apply below_alloc | apply pw_below_drewN | apply below_drew1 | refine below_set ?_ (IsS48.ge HI0.out)) | exact HB.out)⟩⟩
    case round =>
     clear H'
     try clear p2
     try clear c3
     try clear c4
     try clear c6
     try clear c8
     try clear hcz5_0
     try clear hcz5_1
     try clear hcz5_2
     try clear hcz5_3
     try clear hcz5_4
     try clear hcz7_0
     try clear hcz7_1
     try clear hcz7_2
     try clear hcz7_3
     try clear hcz7_4
     try clear hfz5_0
     try clear hfz5_1
     try clear hfz5_2
     try clear hfz5_4
     try clear hfz7_0
     try clear hfz7_1
     try clear hfz7_2
     try clear hfz7_4
     try clear p2
     obtain ⟨x4_2, rfl, HA, HK2, HI0, HK, HB⟩ := hrel
     cases gk with
     | zero => exact absurd HA.out (by simp [lsc_line.l0])
     | succ k2 =>
      have H := HA.out
      clear HA
      simp only [lsc_line.l0] at H
      by_cases c11 : 0 ≤ x4_2
      ·rw [if_pos c11] at H
       have c11b0 := eq_true c11
       have c11b1 : decide (0 ≤ x4_2) = true := decide_eq_true c11
       clear c11
       by_cases c12 : x4_2 ≤ (t434.size : Int)
       ·rw [if_pos c12] at H
        have c12b0 := eq_true c12
        have c12b1 : decide (x4_2 ≤ (t434.size : Int)) = true := decide_eq_true c12
        clear c12
        replace H := Option.bind_eq_some_iff.mp H
        obtain ⟨t439, A130, H⟩ := H
        replace H : (if t439 < 0 then (some ((t434.size : Int), t435, t436, t437, t438)) else (if 0 ≤ (wrap64 (x4_2 + t439)) then (if (wrap64 (x4_2 + t439)) ≤ (t434.size : Int) then ((strings_TrimSuffix.f (t434.extract 0 ((wrap64 (x4_2 + t439)) : Int).toNat) (⟨#[13]⟩ : ByteArray)).bind fun t440 => ((strings_HasSuffix.f (t434.extract 0 ((wrap64 (x4_2 + t439)) : Int).toNat) (⟨#[92]⟩ : ByteArray)).bind fun t441 => (if t441 = true then (lsc_line.l0 k2 t434 (wrap64 ((wrap64 (x4_2 + t439)) + 1)) t435 t436 t437 s0_3 t438) else ((strings_HasSuffix.f t440 (⟨#[92]⟩ : ByteArray)).bind fun t442 => (if t442 = true then (lsc_line.l0 k2 t434 (wrap64 ((wrap64 (x4_2 + t439)) + 1)) t435 t436 t437 s0_3 t438) else (some ((t440.size : Int), t435, t436, t437, t438))))))) else (none)) else (none))) = some (r1, r2, r3, r4, r5) := H
        have A13 := Aside0.mk A130
        clear A130
        by_cases c14 : t439 < 0
        ·rw [if_pos c14] at H
         have c14b0 : decide (t439 < 0) = true := decide_eq_true c14
         clear c14
         simp only [Option.some.injEq, Prod.mk.injEq] at H
         obtain ⟨rfl, rfl, rfl, rfl, rfl⟩ := H
         go_wp2_with (first | ((with_reducible refine gate_callee (f := 59) rfl ?_); refine goesL_ (some 22) rfl rfl Tryd.func59 (by kernel_rfl) rfl #[.string (t434.extract (x4_2 : Int).toNat t434.size), .int .u8 10] rfl (by (try simp only [List.map_toArray, List.map_cons, List.map_nil]); first | done | rfl | (simp only [List.length_drop, List.length_take]; rfl)) ?_; (with_reducible refine (strings_IndexByte.calls (t434.extract (x4_2 : Int).toNat t434.size) 10 t439 _ A13.out).mono ?_); rintro e w' ⟨rfl, ⟨nd, rfl⟩⟩; refine ⟨_, rfl, ?_⟩))
         go_ret
         exact ⟨by first | rfl | (simp [errW_none, errW_some] <;> rfl) | (simp [*, errW_none, errW_some] <;> rfl), by repeat (first | (with_reducible first | exact HI0.out | apply IsS48.alloc | apply IsS48.drewN | apply IsS48.drew | apply IsS48.set_0 | apply IsS48.set_1 | apply IsS48.set_2 | apply IsS48.set_4) | exact HI0.out), by repeat (first | (with_reducible first | exact HB.out | apply below_alloc | apply pw_below_drewN | apply below_drew1 | refine below_set ?_ (IsS48.ge HI0.out)) | exact HB.out), by repeat (first | (with_reducible first | exact HK.out | apply KeepBut.set_ | apply keep_drewN | apply keep_drew | apply keep_alloc) | exact HK.out)⟩
        ·rw [if_neg c14] at H
         have c14b0 : decide (t439 < 0) = false := decide_eq_false c14
         clear c14
         obtain ⟨ji15, hji15⟩ : ∃ j_ : Int, (wrap64 (x4_2 + t439)) = j_ := ⟨_, rfl⟩
         replace H : (if 0 ≤ (ji15) then (if (ji15) ≤ (t434.size : Int) then ((strings_TrimSuffix.f (t434.extract 0 ((ji15) : Int).toNat) (⟨#[13]⟩ : ByteArray)).bind fun t440 => ((strings_HasSuffix.f (t434.extract 0 ((ji15) : Int).toNat) (⟨#[92]⟩ : ByteArray)).bind fun t441 => (if t441 = true then (lsc_line.l0 k2 t434 (wrap64 ((ji15) + 1)) t435 t436 t437 s0_3 t438) else ((strings_HasSuffix.f t440 (⟨#[92]⟩ : ByteArray)).bind fun t442 => (if t442 = true then (lsc_line.l0 k2 t434 (wrap64 ((ji15) + 1)) t435 t436 t437 s0_3 t438) else (some ((t440.size : Int), t435, t436, t437, t438))))))) else (none)) else (none)) = some (r1, r2, r3, r4, r5) := by first | (rw [hji15] at H; exact H) | (simp only [hji15] at H ⊢; exact H)
         (try rw [hji15] at A13)
         have hji15w : (IntKind.i64.wrap (x4_2 + t439)) = ji15 := (i64_w _).trans hji15
         by_cases c16 : 0 ≤ (ji15)
         ·rw [if_pos c16] at H
          have c16b0 := eq_true c16
          have c16b1 : decide (0 ≤ (ji15)) = true := decide_eq_true c16
          clear c16
          by_cases c17 : (ji15) ≤ (t434.size : Int)
          ·rw [if_pos c17] at H
           have c17b0 := eq_true c17
           have c17b1 : decide ((ji15) ≤ (t434.size : Int)) = true := decide_eq_true c17
           clear c17
           replace H := Option.bind_eq_some_iff.mp H
           obtain ⟨t440, A180, H⟩ := H
           replace H : ((strings_HasSuffix.f (t434.extract 0 ((ji15) : Int).toNat) (⟨#[92]⟩ : ByteArray)).bind fun t441 => (if t441 = true then (lsc_line.l0 k2 t434 (wrap64 ((ji15) + 1)) t435 t436 t437 s0_3 t438) else ((strings_HasSuffix.f t440 (⟨#[92]⟩ : ByteArray)).bind fun t442 => (if t442 = true then (lsc_line.l0 k2 t434 (wrap64 ((ji15) + 1)) t435 t436 t437 s0_3 t438) else (some ((t440.size : Int), t435, t436, t437, t438)))))) = some (r1, r2, r3, r4, r5) := H
           have A18 := Aside0.mk A180
           clear A180
           have c19b0 := eq_true (of_decide_eq_true (by first | (with_reducible assumption) | assumption) : 0 ≤ (ji15))
           have c20b0 := eq_true (of_decide_eq_true (by first | (with_reducible assumption) | assumption) : (ji15) ≤ (t434.size : Int))
           replace H := Option.bind_eq_some_iff.mp H
           obtain ⟨t441, A210, H⟩ := H
           replace H : (if t441 = true then (lsc_line.l0 k2 t434 (wrap64 ((ji15) + 1)) t435 t436 t437 s0_3 t438) else ((strings_HasSuffix.f t440 (⟨#[92]⟩ : ByteArray)).bind fun t442 => (if t442 = true then (lsc_line.l0 k2 t434 (wrap64 ((ji15) + 1)) t435 t436 t437 s0_3 t438) else (some ((t440.size : Int), t435, t436, t437, t438))))) = some (r1, r2, r3, r4, r5) := H
           have A21 := Aside0.mk A210
           clear A210
           by_cases c22 : t441 = true
           ·subst c22
            have H1 : (lsc_line.l0 k2 t434 (wrap64 ((ji15) + 1)) t435 t436 t437 s0_3 t438) = some (r1, r2, r3, r4, r5) := by rw [if_pos rfl] at H; exact H
            clear H
            have H := H1
            clear H1
            have H' := Aside0.mk H
            clear H
            go_wp2_with (first | ((with_reducible refine gate_callee (f := 59) rfl ?_); refine goesL_ (some 22) rfl rfl Tryd.func59 (by kernel_rfl) rfl #[.string (t434.extract (x4_2 : Int).toNat t434.size), .int .u8 10] rfl (by (try simp only [List.map_toArray, List.map_cons, List.map_nil]); first | done | rfl | (simp only [List.length_drop, List.length_take]; rfl)) ?_; (with_reducible refine (strings_IndexByte.calls (t434.extract (x4_2 : Int).toNat t434.size) 10 t439 _ A13.out).mono ?_); rintro e w' ⟨rfl, ⟨nd, rfl⟩⟩; refine ⟨_, rfl, ?_⟩) | ((with_reducible refine gate_callee (f := 66) rfl ?_); refine goesL_ (some 33) rfl rfl Tryd.func66 (by kernel_rfl) rfl #[.string (t434.extract 0 ((ji15) : Int).toNat), .string (⟨#[13]⟩ : ByteArray)] rfl (by (try simp only [List.map_toArray, List.map_cons, List.map_nil]); first | done | (simp only [hji15]; rfl) | rfl | (simp only [List.length_drop, List.length_take]; rfl)) ?_; (with_reducible refine (strings_TrimSuffix.calls (t434.extract 0 ((ji15) : Int).toNat) (⟨#[13]⟩ : ByteArray) t440 _ A18.out).mono ?_); rintro e w' ⟨rfl, ⟨nd, rfl⟩⟩; refine ⟨_, rfl, ?_⟩) | ((with_reducible refine gate_callee (f := 67) rfl ?_); refine goesL_ (some 37) rfl rfl Tryd.func67 (by kernel_rfl) rfl #[.string (t434.extract 0 ((ji15) : Int).toNat), .string (⟨#[92]⟩ : ByteArray)] rfl (by (try simp only [List.map_toArray, List.map_cons, List.map_nil]); first | done | (simp only [hji15]; rfl) | rfl | (simp only [List.length_drop, List.length_take]; rfl)) ?_; (with_reducible refine (strings_HasSuffix.calls (t434.extract 0 ((ji15) : Int).toNat) (⟨#[92]⟩ : ByteArray) true _ A21.out).mono ?_); rintro e w' ⟨rfl, ⟨nd, rfl⟩⟩; refine ⟨_, rfl, ?_⟩))
            go_roundg k2
            case measure => have := HJ1.out; have := HK2.out; omega
            case rel => exact ⟨(wrap64 ((ji15) + 1)), (by first | rfl | (simp; done) | (simp only [← hji15] <;> (first | rfl | simp)) | (simp [*]; done)), H', ⟨by have := HJ1.out; have := HK2.out; omega⟩, ⟨by repeat (first | (with_reducible first | exact HI0.out | apply IsS48.alloc | apply IsS48.drewN | apply IsS48.drew | apply IsS48.set_0 | apply IsS48.set_1 | apply IsS48.set_2 | apply IsS48.set_4) | exact HI0.out)⟩, ⟨by repeat (first | (with_reducible first | exact HK.out | apply KeepBut.set_ | apply keep_drewN | apply keep_drew | apply keep_alloc) | exact HK.out)⟩, ⟨by repeat (first | (with_reducible first | exact HB.out | apply below_alloc | apply pw_below_drewN | apply below_drew1 | refine below_set ?_ (IsS48.ge HI0.out)) | exact HB.out)⟩⟩
           ·replace c22 := Bool.eq_false_iff.mpr c22
            subst c22
            have H1 : ((strings_HasSuffix.f t440 (⟨#[92]⟩ : ByteArray)).bind fun t442 => (if t442 = true then (lsc_line.l0 k2 t434 (wrap64 ((ji15) + 1)) t435 t436 t437 s0_3 t438) else (some ((t440.size : Int), t435, t436, t437, t438)))) = some (r1, r2, r3, r4, r5) := by rw [if_neg (show ¬ (false = true) by decide)] at H; exact H
            clear H
            have H := H1
            clear H1
            replace H := Option.bind_eq_some_iff.mp H
            obtain ⟨t442, A230, H⟩ := H
            replace H : (if t442 = true then (lsc_line.l0 k2 t434 (wrap64 ((ji15) + 1)) t435 t436 t437 s0_3 t438) else (some ((t440.size : Int), t435, t436, t437, t438))) = some (r1, r2, r3, r4, r5) := H
            have A23 := Aside0.mk A230
            clear A230
            by_cases c24 : t442 = true
            ·subst c24
             have H1 : (lsc_line.l0 k2 t434 (wrap64 ((ji15) + 1)) t435 t436 t437 s0_3 t438) = some (r1, r2, r3, r4, r5) := by rw [if_pos rfl] at H; exact H
             clear H
             have H := H1
             clear H1
             have H' := Aside0.mk H
             clear H
             go_wp2_with (first | ((with_reducible refine gate_callee (f := 59) rfl ?_); refine goesL_ (some 22) rfl rfl Tryd.func59 (by kernel_rfl) rfl #[.string (t434.extract (x4_2 : Int).toNat t434.size), .int .u8 10] rfl (by (try simp only [List.map_toArray, List.map_cons, List.map_nil]); first | done | rfl | (simp only [List.length_drop, List.length_take]; rfl)) ?_; (with_reducible refine (strings_IndexByte.calls (t434.extract (x4_2 : Int).toNat t434.size) 10 t439 _ A13.out).mono ?_); rintro e w' ⟨rfl, ⟨nd, rfl⟩⟩; refine ⟨_, rfl, ?_⟩) | ((with_reducible refine gate_callee (f := 66) rfl ?_); refine goesL_ (some 33) rfl rfl Tryd.func66 (by kernel_rfl) rfl #[.string (t434.extract 0 ((ji15) : Int).toNat), .string (⟨#[13]⟩ : ByteArray)] rfl (by (try simp only [List.map_toArray, List.map_cons, List.map_nil]); first | done | (simp only [hji15]; rfl) | rfl | (simp only [List.length_drop, List.length_take]; rfl)) ?_; (with_reducible refine (strings_TrimSuffix.calls (t434.extract 0 ((ji15) : Int).toNat) (⟨#[13]⟩ : ByteArray) t440 _ A18.out).mono ?_); rintro e w' ⟨rfl, ⟨nd, rfl⟩⟩; refine ⟨_, rfl, ?_⟩) | ((with_reducible refine gate_callee (f := 67) rfl ?_); refine goesL_ (some 37) rfl rfl Tryd.func67 (by kernel_rfl) rfl #[.string (t434.extract 0 ((ji15) : Int).toNat), .string (⟨#[92]⟩ : ByteArray)] rfl (by (try simp only [List.map_toArray, List.map_cons, List.map_nil]); first | done | (simp only [hji15]; rfl) | rfl | (simp only [List.length_drop, List.length_take]; rfl)) ?_; (with_reducible refine (strings_HasSuffix.calls (t434.extract 0 ((ji15) : Int).toNat) (⟨#[92]⟩ : ByteArray) false _ A21.out).mono ?_); rintro e w' ⟨rfl, ⟨nd, rfl⟩⟩; refine ⟨_, rfl, ?_⟩) | (go_at_call 67; (with_reducible refine (strings_HasSuffix.calls t440 (⟨#[92]⟩ : ByteArray) true _ A23.out).mono ?_); rintro e w' ⟨rfl, ⟨nd, rfl⟩⟩))
             go_roundg k2
             case measure => have := HJ1.out; have := HK2.out; omega
             case rel => exact ⟨(wrap64 ((ji15) + 1)), (by first | rfl | (simp; done) | (simp only [← hji15] <;> (first | rfl | simp)) | (simp [*]; done)), H', ⟨by have := HJ1.out; have := HK2.out; omega⟩, ⟨by repeat (first | (with_reducible first | exact HI0.out | apply IsS48.alloc | apply IsS48.drewN | apply IsS48.drew | apply IsS48.set_0 | apply IsS48.set_1 | apply IsS48.set_2 | apply IsS48.set_4) | exact HI0.out)⟩, ⟨by repeat (first | (with_reducible first | exact HK.out | apply KeepBut.set_ | apply keep_drewN | apply keep_drew | apply keep_alloc) | exact HK.out)⟩, ⟨by repeat (first | (with_reducible first | exact HB.out | apply below_alloc | apply pw_below_drewN | apply below_drew1 | refine below_set ?_ (IsS48.ge HI0.out)) | exact HB.out)⟩⟩
            ·replace c24 := Bool.eq_false_iff.mpr c24
             subst c24
             have H1 : (some ((t440.size : Int), t435, t436, t437, t438)) = some (r1, r2, r3, r4, r5) := by rw [if_neg (show ¬ (false = true) by decide)] at H; exact H
             clear H
             have H := H1
             clear H1
             simp only [Option.some.injEq, Prod.mk.injEq] at H
             obtain ⟨rfl, rfl, rfl, rfl, rfl⟩ := H
             go_wp2_with (first | ((with_reducible refine gate_callee (f := 59) rfl ?_); refine goesL_ (some 22) rfl rfl Tryd.func59 (by kernel_rfl) rfl #[.string (t434.extract (x4_2 : Int).toNat t434.size), .int .u8 10] rfl (by (try simp only [List.map_toArray, List.map_cons, List.map_nil]); first | done | rfl | (simp only [List.length_drop, List.length_take]; rfl)) ?_; (with_reducible refine (strings_IndexByte.calls (t434.extract (x4_2 : Int).toNat t434.size) 10 t439 _ A13.out).mono ?_); rintro e w' ⟨rfl, ⟨nd, rfl⟩⟩; refine ⟨_, rfl, ?_⟩) | ((with_reducible refine gate_callee (f := 66) rfl ?_); refine goesL_ (some 33) rfl rfl Tryd.func66 (by kernel_rfl) rfl #[.string (t434.extract 0 ((ji15) : Int).toNat), .string (⟨#[13]⟩ : ByteArray)] rfl (by (try simp only [List.map_toArray, List.map_cons, List.map_nil]); first | done | (simp only [hji15]; rfl) | rfl | (simp only [List.length_drop, List.length_take]; rfl)) ?_; (with_reducible refine (strings_TrimSuffix.calls (t434.extract 0 ((ji15) : Int).toNat) (⟨#[13]⟩ : ByteArray) t440 _ A18.out).mono ?_); rintro e w' ⟨rfl, ⟨nd, rfl⟩⟩; refine ⟨_, rfl, ?_⟩) | ((with_reducible refine gate_callee (f := 67) rfl ?_); refine goesL_ (some 37) rfl rfl Tryd.func67 (by kernel_rfl) rfl #[.string (t434.extract 0 ((ji15) : Int).toNat), .string (⟨#[92]⟩ : ByteArray)] rfl (by (try simp only [List.map_toArray, List.map_cons, List.map_nil]); first | done | (simp only [hji15]; rfl) | rfl | (simp only [List.length_drop, List.length_take]; rfl)) ?_; (with_reducible refine (strings_HasSuffix.calls (t434.extract 0 ((ji15) : Int).toNat) (⟨#[92]⟩ : ByteArray) false _ A21.out).mono ?_); rintro e w' ⟨rfl, ⟨nd, rfl⟩⟩; refine ⟨_, rfl, ?_⟩) | (go_at_call 67; (with_reducible refine (strings_HasSuffix.calls t440 (⟨#[92]⟩ : ByteArray) false _ A23.out).mono ?_); rintro e w' ⟨rfl, ⟨nd, rfl⟩⟩))
             go_ret
             exact ⟨by first | rfl | (simp [errW_none, errW_some] <;> rfl) | (simp only [← hji15]; first | rfl | (simp [errW_none, errW_some] <;> rfl)) | (simp [*, errW_none, errW_some] <;> rfl), by repeat (first | (with_reducible first | exact HI0.out | apply IsS48.alloc | apply IsS48.drewN | apply IsS48.drew | apply IsS48.set_0 | apply IsS48.set_1 | apply IsS48.set_2 | apply IsS48.set_4) | exact HI0.out), by repeat (first | (with_reducible first | exact HB.out | apply below_alloc | apply pw_below_drewN | apply below_drew1 | refine below_set ?_ (IsS48.ge HI0.out)) | exact HB.out), by repeat (first | (with_reducible first | exact HK.out | apply KeepBut.set_ | apply keep_drewN | apply keep_drew | apply keep_alloc) | exact HK.out)⟩
          ·rw [if_neg c17] at H
           exact absurd H (by simp)
         ·rw [if_neg c16] at H
          exact absurd H (by simp)
       ·rw [if_neg c12] at H
        exact absurd H (by simp)
      ·rw [if_neg c11] at H
       exact absurd H (by simp)

end Go.Proofs.YtabnmkakgcifoaaDoor.PLex

namespace Go.Proofs.YtabnmkakgcifoaaDoor.PLex
open Go.RowKit Go.Proofs.YtabnmkakgcifoaaDoorW.PrintWords Go.Proofs.YtabnmkakgcifoaaDoorW.PrintLast Go.Proofs.YtabnmkakgcifoaaDoorW.PrintMore
def strings_Index.f (a0 a1 : ByteArray) : Option Int := if a0.size < 4294967281 then some (Lib.index a0.data.toList a1.data.toList) else none
def strings_Contains.f (a0 a1 : ByteArray) : Option Bool := if a0.size < 4294967281 then some (Lib.contains a0.data.toList a1.data.toList) else none
theorem strings_Index.calls (a0 a1 : ByteArray) (r : Int) (w : World) (hGl : Glob w) (h : strings_Index.f a0 a1 = some r) :
    Calls Tryd.prog 78 #[.string a0, .string a1] w fun e w' => e = .returned (.int .i64 r) ∧ Below w.heap.size w w' := by
  unfold strings_Index.f at h
  split at h
  · rename_i hs
    obtain rfl := Option.some.inj h
    obtain ⟨m, hm⟩ := hGl.most
    refine (Tryd.strings_Index a0 a1 m w hs hm).mono ?_
    rintro e w' ⟨rfl, rfl⟩
    exact ⟨rfl, Below.refl _ _⟩
  · cases h
theorem strings_Contains.calls (a0 a1 : ByteArray) (r : Bool) (w : World) (hGl : Glob w) (h : strings_Contains.f a0 a1 = some r) :
    Calls Tryd.prog 79 #[.string a0, .string a1] w fun e w' => e = .returned (.bool r) ∧ Below w.heap.size w w' := by
  unfold strings_Contains.f at h
  split at h
  · rename_i hs
    obtain rfl := Option.some.inj h
    obtain ⟨m, hm⟩ := hGl.most
    refine (Tryd.strings_Contains a0 a1 m w hs hm).mono ?_
    rintro e w' ⟨rfl, rfl⟩
    exact ⟨rfl, Below.refl _ _⟩
  · cases h
end Go.Proofs.YtabnmkakgcifoaaDoor.PLex

namespace Go.Proofs.YtabnmkakgcifoaaDoor.PLex
open Go.RowKit Go.Proofs.YtabnmkakgcifoaaDoorW.PrintWords Go.Proofs.YtabnmkakgcifoaaDoorW.PrintLast Go.Proofs.YtabnmkakgcifoaaDoorW.PrintMore
attribute [local go_sem] max2_int min2_int max_two min_two max_three min_three max_four min_four   -- for this text's walks alone
set_option linter.unusedVariables false
set_option linter.unusedSimpArgs false

def lsc_comment.f (s0_0 : ByteArray) (s0_1 : Int) (s0_2 : Option Nat) (s0_3 : List ByteArray) (s0_4 : Bool) : Option (Bool × ByteArray × Int × Option Nat × Bool) := (lsc_rest.f s0_0 s0_1 s0_2 s0_3 s0_4).bind fun bt102 => ((strings_HasPrefix.f bt102.1 (⟨#[47, 47]⟩ : ByteArray)).bind fun t107 => (if t107 = true then ((strings_IndexByte.f bt102.1 10).bind fun t108 => (if t108 < 0 then (some (true, bt102.2.1, wrap64 (bt102.2.2.1 + (bt102.1.size : Int)), bt102.2.2.2.1, bt102.2.2.2.2)) else (some (true, bt102.2.1, wrap64 (bt102.2.2.1 + t108), bt102.2.2.2.1, bt102.2.2.2.2)))) else ((strings_HasPrefix.f bt102.1 (⟨#[47, 42]⟩ : ByteArray)).bind fun t109 => (if t109 = true then (if 2 ≤ (bt102.1.size : Int) then ((strings_Index.f (bt102.1.extract 2 bt102.1.size) (⟨#[42, 47]⟩ : ByteArray)).bind fun t110 => (if (wrap64 (t110 + 4)) < 4 then (if bt102.2.2.2.2 = true then (some (true, bt102.2.1, wrap64 (bt102.2.2.1 + (bt102.1.size : Int)), bt102.2.2.2.1, true)) else (if 0 ≤ (bt102.1.size : Int) then (if (bt102.1.size : Int) ≤ (bt102.1.size : Int) then ((strings_Contains.f (bt102.1.extract 0 ((bt102.1.size : Int) : Int).toNat) (⟨#[10]⟩ : ByteArray)).bind fun t111 => (some (true, bt102.2.1, wrap64 (bt102.2.2.1 + (bt102.1.size : Int)), bt102.2.2.2.1, t111))) else (none)) else (none))) else (if bt102.2.2.2.2 = true then (some (true, bt102.2.1, wrap64 (bt102.2.2.1 + (wrap64 (t110 + 4))), bt102.2.2.2.1, true)) else (if 0 ≤ (wrap64 (t110 + 4)) then (if (wrap64 (t110 + 4)) ≤ (bt102.1.size : Int) then ((strings_Contains.f (bt102.1.extract 0 ((wrap64 (t110 + 4)) : Int).toNat) (⟨#[10]⟩ : ByteArray)).bind fun t112 => (some (true, bt102.2.1, wrap64 (bt102.2.2.1 + (wrap64 (t110 + 4))), bt102.2.2.2.1, t112))) else (none)) else (none))))) else (none)) else (some (false, bt102.2.1, bt102.2.2.1, bt102.2.2.2.1, bt102.2.2.2.2))))))
set_option maxHeartbeats 8000000 in
set_option maxRecDepth 100000 in
theorem lsc_comment.calls (g : Nat) (s0_0 : ByteArray) (s0_1 : Int) (s0_2 : Option Nat) (s0_3 : List ByteArray) (s0_4 : Bool) (r1 : Bool) (r2 : ByteArray) (r3 : Int) (r4 : Option Nat) (r5 : Bool) (w0 w : World) (hI : IsS48 w0 w g s0_0 s0_1 s0_2 s0_3 s0_4) (hB : Below w0.heap.size w0 w) (hGl : Glob w0) (h : lsc_comment.f s0_0 s0_1 s0_2 s0_3 s0_4 = some (r1, r2, r3, r4, r5)) :
  Calls Tryd.prog 64 #[.pointer (some ⟨g, 0, none⟩)] w fun e w' => e = .returned (.bool r1) ∧ IsS48 w0 w' g r2 r3 r4 s0_3 r5 ∧ Below w0.heap.size w0 w' ∧ KeepBut w w' g none := by
 have HI0 := Aside0.mk hI
 have HK := Aside0.mk (KeepBut.refl w g none)
 have HL := Aside0.mk hB.size
 clear hI
 have HW0 := Aside0.mk hB.size
 have HB := Aside0.mk hB
 clear hB
 have HGl := Aside0.mk hGl
 clear hGl
 have H : ((lsc_rest.f s0_0 s0_1 s0_2 s0_3 s0_4).bind fun bt102 => ((strings_HasPrefix.f bt102.1 (⟨#[47, 47]⟩ : ByteArray)).bind fun t107 => (if t107 = true then ((strings_IndexByte.f bt102.1 10).bind fun t108 => (if t108 < 0 then (some (true, bt102.2.1, wrap64 (bt102.2.2.1 + (bt102.1.size : Int)), bt102.2.2.2.1, bt102.2.2.2.2)) else (some (true, bt102.2.1, wrap64 (bt102.2.2.1 + t108), bt102.2.2.2.1, bt102.2.2.2.2)))) else ((strings_HasPrefix.f bt102.1 (⟨#[47, 42]⟩ : ByteArray)).bind fun t109 => (if t109 = true then (if 2 ≤ (bt102.1.size : Int) then ((strings_Index.f (bt102.1.extract 2 bt102.1.size) (⟨#[42, 47]⟩ : ByteArray)).bind fun t110 => (if (wrap64 (t110 + 4)) < 4 then (if bt102.2.2.2.2 = true then (some (true, bt102.2.1, wrap64 (bt102.2.2.1 + (bt102.1.size : Int)), bt102.2.2.2.1, true)) else (if 0 ≤ (bt102.1.size : Int) then (if (bt102.1.size : Int) ≤ (bt102.1.size : Int) then ((strings_Contains.f (bt102.1.extract 0 ((bt102.1.size : Int) : Int).toNat) (⟨#[10]⟩ : ByteArray)).bind fun t111 => (some (true, bt102.2.1, wrap64 (bt102.2.2.1 + (bt102.1.size : Int)), bt102.2.2.2.1, t111))) else (none)) else (none))) else (if bt102.2.2.2.2 = true then (some (true, bt102.2.1, wrap64 (bt102.2.2.1 + (wrap64 (t110 + 4))), bt102.2.2.2.1, true)) else (if 0 ≤ (wrap64 (t110 + 4)) then (if (wrap64 (t110 + 4)) ≤ (bt102.1.size : Int) then ((strings_Contains.f (bt102.1.extract 0 ((wrap64 (t110 + 4)) : Int).toNat) (⟨#[10]⟩ : ByteArray)).bind fun t112 => (some (true, bt102.2.1, wrap64 (bt102.2.2.1 + (wrap64 (t110 + 4))), bt102.2.2.2.1, t112))) else (none)) else (none))))) else (none)) else (some (false, bt102.2.1, bt102.2.2.1, bt102.2.2.2.1, bt102.2.2.2.2))))))) = some (r1, r2, r3, r4, r5) := h
 clear h
 replace H := Option.bind_eq_some_iff.mp H
 obtain ⟨⟨t102, t103, t104, t105, t106⟩, A20, H⟩ := H
 replace H : ((strings_HasPrefix.f t102 (⟨#[47, 47]⟩ : ByteArray)).bind fun t107 => (if t107 = true then ((strings_IndexByte.f t102 10).bind fun t108 => (if t108 < 0 then (some (true, t103, wrap64 (t104 + (t102.size : Int)), t105, t106)) else (some (true, t103, wrap64 (t104 + t108), t105, t106)))) else ((strings_HasPrefix.f t102 (⟨#[47, 42]⟩ : ByteArray)).bind fun t109 => (if t109 = true then (if 2 ≤ (t102.size : Int) then ((strings_Index.f (t102.extract 2 t102.size) (⟨#[42, 47]⟩ : ByteArray)).bind fun t110 => (if (wrap64 (t110 + 4)) < 4 then (if t106 = true then (some (true, t103, wrap64 (t104 + (t102.size : Int)), t105, true)) else (if 0 ≤ (t102.size : Int) then (if (t102.size : Int) ≤ (t102.size : Int) then ((strings_Contains.f (t102.extract 0 ((t102.size : Int) : Int).toNat) (⟨#[10]⟩ : ByteArray)).bind fun t111 => (some (true, t103, wrap64 (t104 + (t102.size : Int)), t105, t111))) else (none)) else (none))) else (if t106 = true then (some (true, t103, wrap64 (t104 + (wrap64 (t110 + 4))), t105, true)) else (if 0 ≤ (wrap64 (t110 + 4)) then (if (wrap64 (t110 + 4)) ≤ (t102.size : Int) then ((strings_Contains.f (t102.extract 0 ((wrap64 (t110 + 4)) : Int).toNat) (⟨#[10]⟩ : ByteArray)).bind fun t112 => (some (true, t103, wrap64 (t104 + (wrap64 (t110 + 4))), t105, t112))) else (none)) else (none))))) else (none)) else (some (false, t103, t104, t105, t106)))))) = some (r1, r2, r3, r4, r5) := H
 have A2 := Aside0.mk A20
 clear A20
 replace H := Option.bind_eq_some_iff.mp H
 obtain ⟨t107, A30, H⟩ := H
 replace H : (if t107 = true then ((strings_IndexByte.f t102 10).bind fun t108 => (if t108 < 0 then (some (true, t103, wrap64 (t104 + (t102.size : Int)), t105, t106)) else (some (true, t103, wrap64 (t104 + t108), t105, t106)))) else ((strings_HasPrefix.f t102 (⟨#[47, 42]⟩ : ByteArray)).bind fun t109 => (if t109 = true then (if 2 ≤ (t102.size : Int) then ((strings_Index.f (t102.extract 2 t102.size) (⟨#[42, 47]⟩ : ByteArray)).bind fun t110 => (if (wrap64 (t110 + 4)) < 4 then (if t106 = true then (some (true, t103, wrap64 (t104 + (t102.size : Int)), t105, true)) else (if 0 ≤ (t102.size : Int) then (if (t102.size : Int) ≤ (t102.size : Int) then ((strings_Contains.f (t102.extract 0 ((t102.size : Int) : Int).toNat) (⟨#[10]⟩ : ByteArray)).bind fun t111 => (some (true, t103, wrap64 (t104 + (t102.size : Int)), t105, t111))) else (none)) else (none))) else (if t106 = true then (some (true, t103, wrap64 (t104 + (wrap64 (t110 + 4))), t105, true)) else (if 0 ≤ (wrap64 (t110 + 4)) then (if (wrap64 (t110 + 4)) ≤ (t102.size : Int) then ((strings_Contains.f (t102.extract 0 ((wrap64 (t110 + 4)) : Int).toNat) (⟨#[10]⟩ : ByteArray)).bind fun t112 => (some (true, t103, wrap64 (t104 + (wrap64 (t110 + 4))), t105, t112))) else (none)) else (none))))) else (none)) else (some (false, t103, t104, t105, t106))))) = some (r1, r2, r3, r4, r5) := H
 have A3 := Aside0.mk A30
 clear A30
 by_cases c4 : t107 = true
 ·subst c4
  have H1 : ((strings_IndexByte.f t102 10).bind fun t108 => (if t108 < 0 then (some (true, t103, wrap64 (t104 + (t102.size : Int)), t105, t106)) else (some (true, t103, wrap64 (t104 + t108), t105, t106)))) = some (r1, r2, r3, r4, r5) := by rw [if_pos rfl] at H; exact H
  clear H
  have H := H1
  clear H1
  replace H := Option.bind_eq_some_iff.mp H
  obtain ⟨t108, A50, H⟩ := H
  replace H : (if t108 < 0 then (some (true, t103, wrap64 (t104 + (t102.size : Int)), t105, t106)) else (some (true, t103, wrap64 (t104 + t108), t105, t106))) = some (r1, r2, r3, r4, r5) := H
  have A5 := Aside0.mk A50
  clear A50
  by_cases c6 : t108 < 0
  ·rw [if_pos c6] at H
   have c6b0 : decide (t108 < 0) = true := decide_eq_true c6
   clear c6
   simp only [Option.some.injEq, Prod.mk.injEq] at H
   obtain ⟨rfl, rfl, rfl, rfl, rfl⟩ := H
   go_enter Tryd.func64, Tryd.ntmps64
   go_wp2_with (first | ((with_reducible refine gate_callee (f := 65) rfl ?_); refine goesL_ (some 7) rfl rfl Tryd.func65 (by kernel_rfl) rfl #[.pointer (some ⟨g, 0, none⟩)] rfl (by (try simp only [List.map_toArray, List.map_cons, List.map_nil]); first | done | rfl | (simp only [List.length_drop, List.length_take]; rfl)) ?_; (with_reducible refine (lsc_rest.calls g s0_0 s0_1 s0_2 s0_3 s0_4 t102 t103 t104 t105 t106 w0 _ ?side1 ?side2 A2.out).mono ?_); (case side1 => repeat (first | (with_reducible first | exact HI0.out | apply IsS48.alloc | apply IsS48.drewN | apply IsS48.drew | apply IsS48.set_0 | apply IsS48.set_1 | apply IsS48.set_2 | apply IsS48.set_4) | exact HI0.out)); (case side2 => repeat (first | (with_reducible first | exact HB.out | apply below_alloc | apply pw_below_drewN | apply below_drew1 | refine below_set ?_ (IsS48.ge HI0.out)) | exact HB.out)); rintro e w7 ⟨rfl, hi, hb, hk⟩; refine ⟨_, rfl, ?_⟩; have n0_ := Aside0.mk (KeepBut.trans (by repeat (first | (with_reducible first | exact HK.out | apply KeepBut.set_ | apply keep_drewN | apply keep_drew | apply keep_alloc) | exact HK.out)) hk (.inl rfl)); have n1_ := Aside0.mk (hb); have n2_ := Aside0.mk (hi); clear HK; clear HB; clear HI0; have HK := n0_; have HB := n1_; have HI0 := n2_; clear n0_ n1_ n2_; (try clear hb); (try clear hb2); (try clear hk); (try clear hi)) | ((with_reducible refine gate_callee (f := 69) rfl ?_); refine goesL_ (some 10) rfl rfl Tryd.func69 (by kernel_rfl) rfl #[.string t102, .string (⟨#[47, 47]⟩ : ByteArray)] rfl (by (try simp only [List.map_toArray, List.map_cons, List.map_nil]); first | done | rfl | (simp only [List.length_drop, List.length_take]; rfl)) ?_; (with_reducible refine (strings_HasPrefix.calls t102 (⟨#[47, 47]⟩ : ByteArray) true _ A3.out).mono ?_); rintro e w' ⟨rfl, ⟨nd, rfl⟩⟩; refine ⟨_, rfl, ?_⟩; (try (rw [drewN_self w7]; generalize hq_ : World.drewN w7 _ = w7; have n0_ : Aside0 (IsS48 w0 w7 g t103 t104 t105 s0_3 t106) := ⟨by rw [← hq_]; exact (by repeat (first | (with_reducible first | exact HI0.out | apply IsS48.alloc | apply IsS48.drewN | apply IsS48.drew | apply IsS48.set_0 | apply IsS48.set_1 | apply IsS48.set_2 | apply IsS48.set_4) | exact HI0.out))⟩; have n1_ : Aside0 (KeepBut w w7 g none) := ⟨by rw [← hq_]; exact (by repeat (first | (with_reducible first | exact HK.out | apply KeepBut.set_ | apply keep_drewN | apply keep_drew | apply keep_alloc) | exact HK.out))⟩; have n2_ : Aside0 (Below w0.heap.size w0 w7) := ⟨by rw [← hq_]; exact (by repeat (first | (with_reducible first | exact HB.out | apply below_alloc | apply pw_below_drewN | apply below_drew1 | refine below_set ?_ (IsS48.ge HI0.out)) | exact HB.out))⟩; clear HI0 HK HB hq_; have HI0 := n0_; have HK := n1_; have HB := n2_; clear n0_ n1_ n2_))) | ((with_reducible refine gate_callee (f := 59) rfl ?_); refine goesL_ (some 12) rfl rfl Tryd.func59 (by kernel_rfl) rfl #[.string t102, .int .u8 10] rfl (by (try simp only [List.map_toArray, List.map_cons, List.map_nil]); first | done | rfl | (simp only [List.length_drop, List.length_take]; rfl)) ?_; (with_reducible refine (strings_IndexByte.calls t102 10 t108 _ A5.out).mono ?_); rintro e w' ⟨rfl, ⟨nd, rfl⟩⟩; refine ⟨_, rfl, ?_⟩; (try (rw [drewN_self w7]; generalize hq_ : World.drewN w7 _ = w7; have n0_ : Aside0 (IsS48 w0 w7 g t103 t104 t105 s0_3 t106) := ⟨by rw [← hq_]; exact (by repeat (first | (with_reducible first | exact HI0.out | apply IsS48.alloc | apply IsS48.drewN | apply IsS48.drew | apply IsS48.set_0 | apply IsS48.set_1 | apply IsS48.set_2 | apply IsS48.set_4) | exact HI0.out))⟩; have n1_ : Aside0 (KeepBut w w7 g none) := ⟨by rw [← hq_]; exact (by repeat (first | (with_reducible first | exact HK.out | apply KeepBut.set_ | apply keep_drewN | apply keep_drew | apply keep_alloc) | exact HK.out))⟩; have n2_ : Aside0 (Below w0.heap.size w0 w7) := ⟨by rw [← hq_]; exact (by repeat (first | (with_reducible first | exact HB.out | apply below_alloc | apply pw_below_drewN | apply below_drew1 | refine below_set ?_ (IsS48.ge HI0.out)) | exact HB.out))⟩; clear HI0 HK HB hq_; have HI0 := n0_; have HK := n1_; have HB := n2_; clear n0_ n1_ n2_)); obtain ⟨ASz8_3, cSz8_3, HGz8, hgz8, HSz8_3⟩ := HI0.out; have hcz8_0 := cellS48_0 HGz8; have hcz8_1 := cellS48_1 HGz8; have hcz8_2 := cellS48_2 HGz8; have hcz8_3 := cellS48_3 HGz8; have hcz8_4 := cellS48_4 HGz8; have hfz8_0 := blk_frozen HGz8 0; have hfz8_1 := blk_frozen HGz8 1; have hfz8_2 := blk_frozen HGz8 2; have hfz8_4 := blk_frozen HGz8 4; clear HGz8 hgz8))
   go_ret
   exact ⟨by first | rfl | (simp [errW_none, errW_some] <;> rfl) | (simp [*, errW_none, errW_some] <;> rfl), by repeat (first | (with_reducible first | exact HI0.out | apply IsS48.alloc | apply IsS48.drewN | apply IsS48.drew | apply IsS48.set_0 | apply IsS48.set_1 | apply IsS48.set_2 | apply IsS48.set_4) | exact HI0.out), by repeat (first | (with_reducible first | exact HB.out | apply below_alloc | apply pw_below_drewN | apply below_drew1 | refine below_set ?_ (IsS48.ge HI0.out)) | exact HB.out), by repeat (first | (with_reducible first | exact HK.out | apply KeepBut.set_ | apply keep_drewN | apply keep_drew | apply keep_alloc) | exact HK.out)⟩
  ·rw [if_neg c6] at H
   have c6b0 : decide (t108 < 0) = false := decide_eq_false c6
   clear c6
   simp only [Option.some.injEq, Prod.mk.injEq] at H
   obtain ⟨rfl, rfl, rfl, rfl, rfl⟩ := H
   go_enter Tryd.func64, Tryd.ntmps64
   go_wp2_with (first | ((with_reducible refine gate_callee (f := 65) rfl ?_); refine goesL_ (some 7) rfl rfl Tryd.func65 (by kernel_rfl) rfl #[.pointer (some ⟨g, 0, none⟩)] rfl (by (try simp only [List.map_toArray, List.map_cons, List.map_nil]); first | done | rfl | (simp only [List.length_drop, List.length_take]; rfl)) ?_; (with_reducible refine (lsc_rest.calls g s0_0 s0_1 s0_2 s0_3 s0_4 t102 t103 t104 t105 t106 w0 _ ?side1 ?side2 A2.out).mono ?_); (case side1 => repeat (first | (with_reducible first | exact HI0.out | apply IsS48.alloc | apply IsS48.drewN | apply IsS48.drew | apply IsS48.set_0 | apply IsS48.set_1 | apply IsS48.set_2 | apply IsS48.set_4) | exact HI0.out)); (case side2 => repeat (first | (with_reducible first | exact HB.out | apply below_alloc | apply pw_below_drewN | apply below_drew1 | refine below_set ?_ (IsS48.ge HI0.out)) | exact HB.out)); rintro e w9 ⟨rfl, hi, hb, hk⟩; refine ⟨_, rfl, ?_⟩; have n0_ := Aside0.mk (KeepBut.trans (by repeat (first | (with_reducible first | exact HK.out | apply KeepBut.set_ | apply keep_drewN | apply keep_drew | apply keep_alloc) | exact HK.out)) hk (.inl rfl)); have n1_ := Aside0.mk (hb); have n2_ := Aside0.mk (hi); clear HK; clear HB; clear HI0; have HK := n0_; have HB := n1_; have HI0 := n2_; clear n0_ n1_ n2_; (try clear hb); (try clear hb2); (try clear hk); (try clear hi)) | ((with_reducible refine gate_callee (f := 69) rfl ?_); refine goesL_ (some 10) rfl rfl Tryd.func69 (by kernel_rfl) rfl #[.string t102, .string (⟨#[47, 47]⟩ : ByteArray)] rfl (by (try simp only [List.map_toArray, List.map_cons, List.map_nil]); first | done | rfl | (simp only [List.length_drop, List.length_take]; rfl)) ?_; (with_reducible refine (strings_HasPrefix.calls t102 (⟨#[47, 47]⟩ : ByteArray) true _ A3.out).mono ?_); rintro e w' ⟨rfl, ⟨nd, rfl⟩⟩; refine ⟨_, rfl, ?_⟩; (try (rw [drewN_self w9]; generalize hq_ : World.drewN w9 _ = w9; have n0_ : Aside0 (IsS48 w0 w9 g t103 t104 t105 s0_3 t106) := ⟨by rw [← hq_]; exact (by repeat (first | (with_reducible first | exact HI0.out | apply IsS48.alloc | apply IsS48.drewN | apply IsS48.drew | apply IsS48.set_0 | apply IsS48.set_1 | apply IsS48.set_2 | apply IsS48.set_4) | exact HI0.out))⟩; have n1_ : Aside0 (KeepBut w w9 g none) := ⟨by rw [← hq_]; exact (by repeat (first | (with_reducible first | exact HK.out | apply KeepBut.set_ | apply keep_drewN | apply keep_drew | apply keep_alloc) | exact HK.out))⟩; have n2_ : Aside0 (Below w0.heap.size w0 w9) := ⟨by rw [← hq_]; exact (by repeat (first | (with_reducible first | exact HB.out | apply below_alloc | apply pw_below_drewN | apply below_drew1 | refine below_set ?_ (IsS48.ge HI0.out)) | exact HB.out))⟩; clear HI0 HK HB hq_; have HI0 := n0_; have HK := n1_; have HB := n2_; clear n0_ n1_ n2_))) | ((with_reducible refine gate_callee (f := 59) rfl ?_); refine goesL_ (some 12) rfl rfl Tryd.func59 (by kernel_rfl) rfl #[.string t102, .int .u8 10] rfl (by (try simp only [List.map_toArray, List.map_cons, List.map_nil]); first | done | rfl | (simp only [List.length_drop, List.length_take]; rfl)) ?_; (with_reducible refine (strings_IndexByte.calls t102 10 t108 _ A5.out).mono ?_); rintro e w' ⟨rfl, ⟨nd, rfl⟩⟩; refine ⟨_, rfl, ?_⟩; (try (rw [drewN_self w9]; generalize hq_ : World.drewN w9 _ = w9; have n0_ : Aside0 (IsS48 w0 w9 g t103 t104 t105 s0_3 t106) := ⟨by rw [← hq_]; exact (by repeat (first | (with_reducible first | exact HI0.out | apply IsS48.alloc | apply IsS48.drewN | apply IsS48.drew | apply IsS48.set_0 | apply IsS48.set_1 | apply IsS48.set_2 | apply IsS48.set_4) | exact HI0.out))⟩; have n1_ : Aside0 (KeepBut w w9 g none) := ⟨by rw [← hq_]; exact (by repeat (first | (with_reducible first | exact HK.out | apply KeepBut.set_ | apply keep_drewN | apply keep_drew | apply keep_alloc) | exact HK.out))⟩; have n2_ : Aside0 (Below w0.heap.size w0 w9) := ⟨by rw [← hq_]; exact (by repeat (first | (with_reducible first | exact HB.out | apply below_alloc | apply pw_below_drewN | apply below_drew1 | refine below_set ?_ (IsS48.ge HI0.out)) | exact HB.out))⟩; clear HI0 HK HB hq_; have HI0 := n0_; have HK := n1_; have HB := n2_; clear n0_ n1_ n2_)); obtain ⟨ASz10_3, cSz10_3, HGz10, hgz10, HSz10_3⟩ := HI0.out; have hcz10_0 := cellS48_0 HGz10; have hcz10_1 := cellS48_1 HGz10; have hcz10_2 := cellS48_2 HGz10; have hcz10_3 := cellS48_3 HGz10; have hcz10_4 := cellS48_4 HGz10; have hfz10_0 := blk_frozen HGz10 0; have hfz10_1 := blk_frozen HGz10 1; have hfz10_2 := blk_frozen HGz10 2; have hfz10_4 := blk_frozen HGz10 4; clear HGz10 hgz10))
   go_ret
   exact ⟨by first | rfl | (simp [errW_none, errW_some] <;> rfl) | (simp [*, errW_none, errW_some] <;> rfl), by repeat (first | (with_reducible first | exact HI0.out | apply IsS48.alloc | apply IsS48.drewN | apply IsS48.drew | apply IsS48.set_0 | apply IsS48.set_1 | apply IsS48.set_2 | apply IsS48.set_4) | exact HI0.out), by repeat (first | (with_reducible first | exact HB.out | apply below_alloc | apply pw_below_drewN | apply below_drew1 | refine below_set ?_ (IsS48.ge HI0.out)) | exact HB.out), by repeat (first | (with_reducible first | exact HK.out | apply KeepBut.set_ | apply keep_drewN | apply keep_drew | apply keep_alloc) | exact HK.out)⟩
 ·replace c4 := Bool.eq_false_iff.mpr c4
  subst c4
  have H1 : ((strings_HasPrefix.f t102 (⟨#[47, 42]⟩ : ByteArray)).bind fun t109 => (if t109 = true then (if 2 ≤ (t102.size : Int) then ((strings_Index.f (t102.extract 2 t102.size) (⟨#[42, 47]⟩ : ByteArray)).bind fun t110 => (if (wrap64 (t110 + 4)) < 4 then (if t106 = true then (some (true, t103, wrap64 (t104 + (t102.size : Int)), t105, true)) else (if 0 ≤ (t102.size : Int) then (if (t102.size : Int) ≤ (t102.size : Int) then ((strings_Contains.f (t102.extract 0 ((t102.size : Int) : Int).toNat) (⟨#[10]⟩ : ByteArray)).bind fun t111 => (some (true, t103, wrap64 (t104 + (t102.size : Int)), t105, t111))) else (none)) else (none))) else (if t106 = true then (some (true, t103, wrap64 (t104 + (wrap64 (t110 + 4))), t105, true)) else (if 0 ≤ (wrap64 (t110 + 4)) then (if (wrap64 (t110 + 4)) ≤ (t102.size : Int) then ((strings_Contains.f (t102.extract 0 ((wrap64 (t110 + 4)) : Int).toNat) (⟨#[10]⟩ : ByteArray)).bind fun t112 => (some (true, t103, wrap64 (t104 + (wrap64 (t110 + 4))), t105, t112))) else (none)) else (none))))) else (none)) else (some (false, t103, t104, t105, t106)))) = some (r1, r2, r3, r4, r5) := by rw [if_neg (show ¬ (false = true) by decide)] at H; exact H
  clear H
  have H := H1
  clear H1
  replace H := Option.bind_eq_some_iff.mp H
  obtain ⟨t109, A110, H⟩ := H
  replace H : (if t109 = true then (if 2 ≤ (t102.size : Int) then ((strings_Index.f (t102.extract 2 t102.size) (⟨#[42, 47]⟩ : ByteArray)).bind fun t110 => (if (wrap64 (t110 + 4)) < 4 then (if t106 = true then (some (true, t103, wrap64 (t104 + (t102.size : Int)), t105, true)) else (if 0 ≤ (t102.size : Int) then (if (t102.size : Int) ≤ (t102.size : Int) then ((strings_Contains.f (t102.extract 0 ((t102.size : Int) : Int).toNat) (⟨#[10]⟩ : ByteArray)).bind fun t111 => (some (true, t103, wrap64 (t104 + (t102.size : Int)), t105, t111))) else (none)) else (none))) else (if t106 = true then (some (true, t103, wrap64 (t104 + (wrap64 (t110 + 4))), t105, true)) else (if 0 ≤ (wrap64 (t110 + 4)) then (if (wrap64 (t110 + 4)) ≤ (t102.size : Int) then ((strings_Contains.f (t102.extract 0 ((wrap64 (t110 + 4)) : Int).toNat) (⟨#[10]⟩ : ByteArray)).bind fun t112 => (some (true, t103, wrap64 (t104 + (wrap64 (t110 + 4))), t105, t112))) else (none)) else (none))))) else (none)) else (some (false, t103, t104, t105, t106))) = some (r1, r2, r3, r4, r5) := H
  have A11 := Aside0.mk A110
  clear A110
  by_cases c12 : t109 = true
  ·subst c12
   have H1 : (if 2 ≤ (t102.size : Int) then ((strings_Index.f (t102.extract 2 t102.size) (⟨#[42, 47]⟩ : ByteArray)).bind fun t110 => (if (wrap64 (t110 + 4)) < 4 then (if t106 = true then (some (true, t103, wrap64 (t104 + (t102.size : Int)), t105, true)) else (if 0 ≤ (t102.size : Int) then (if (t102.size : Int) ≤ (t102.size : Int) then ((strings_Contains.f (t102.extract 0 ((t102.size : Int) : Int).toNat) (⟨#[10]⟩ : ByteArray)).bind fun t111 => (some (true, t103, wrap64 (t104 + (t102.size : Int)), t105, t111))) else (none)) else (none))) else (if t106 = true then (some (true, t103, wrap64 (t104 + (wrap64 (t110 + 4))), t105, true)) else (if 0 ≤ (wrap64 (t110 + 4)) then (if (wrap64 (t110 + 4)) ≤ (t102.size : Int) then ((strings_Contains.f (t102.extract 0 ((wrap64 (t110 + 4)) : Int).toNat) (⟨#[10]⟩ : ByteArray)).bind fun t112 => (some (true, t103, wrap64 (t104 + (wrap64 (t110 + 4))), t105, t112))) else (none)) else (none))))) else (none)) = some (r1, r2, r3, r4, r5) := by rw [if_pos rfl] at H; exact H
   clear H
   have H := H1
   clear H1
   by_cases c13 : 2 ≤ (t102.size : Int)
   ·rw [if_pos c13] at H
    have c13b0 := eq_true c13
    have c13b1 : decide (2 ≤ (t102.size : Int)) = true := decide_eq_true c13
    clear c13
    replace H := Option.bind_eq_some_iff.mp H
    obtain ⟨t110, A140, H⟩ := H
    replace H : (if (wrap64 (t110 + 4)) < 4 then (if t106 = true then (some (true, t103, wrap64 (t104 + (t102.size : Int)), t105, true)) else (if 0 ≤ (t102.size : Int) then (if (t102.size : Int) ≤ (t102.size : Int) then ((strings_Contains.f (t102.extract 0 ((t102.size : Int) : Int).toNat) (⟨#[10]⟩ : ByteArray)).bind fun t111 => (some (true, t103, wrap64 (t104 + (t102.size : Int)), t105, t111))) else (none)) else (none))) else (if t106 = true then (some (true, t103, wrap64 (t104 + (wrap64 (t110 + 4))), t105, true)) else (if 0 ≤ (wrap64 (t110 + 4)) then (if (wrap64 (t110 + 4)) ≤ (t102.size : Int) then ((strings_Contains.f (t102.extract 0 ((wrap64 (t110 + 4)) : Int).toNat) (⟨#[10]⟩ : ByteArray)).bind fun t112 => (some (true, t103, wrap64 (t104 + (wrap64 (t110 + 4))), t105, t112))) else (none)) else (none)))) = some (r1, r2, r3, r4, r5) := H
    have A14 := Aside0.mk A140
    clear A140
    by_cases c15 : (wrap64 (t110 + 4)) < 4
    ·rw [if_pos c15] at H
     have c15b0 : decide ((wrap64 (t110 + 4)) < 4) = true := decide_eq_true c15
     clear c15
     by_cases c16 : t106 = true
     ·subst c16
      have H1 : (some (true, t103, wrap64 (t104 + (t102.size : Int)), t105, true)) = some (r1, r2, r3, r4, r5) := by rw [if_pos rfl] at H; exact H
      clear H
      have H := H1
      clear H1
      simp only [Option.some.injEq, Prod.mk.injEq] at H
      obtain ⟨rfl, rfl, rfl, rfl, rfl⟩ := H
      go_enter Tryd.func64, Tryd.ntmps64
      go_wp2_with (first | ((with_reducible refine gate_callee (f := 65) rfl ?_); refine goesL_ (some 7) rfl rfl Tryd.func65 (by kernel_rfl) rfl #[.pointer (some ⟨g, 0, none⟩)] rfl (by (try simp only [List.map_toArray, List.map_cons, List.map_nil]); first | done | rfl | (simp only [List.length_drop, List.length_take]; rfl)) ?_; (with_reducible refine (lsc_rest.calls g s0_0 s0_1 s0_2 s0_3 s0_4 t102 t103 t104 t105 true w0 _ ?side1 ?side2 A2.out).mono ?_); (case side1 => repeat (first | (with_reducible first | exact HI0.out | apply IsS48.alloc | apply IsS48.drewN | apply IsS48.drew | apply IsS48.set_0 | apply IsS48.set_1 | apply IsS48.set_2 | apply IsS48.set_4) | exact HI0.out)); (case side2 => repeat (first | (with_reducible first | exact HB.out | apply below_alloc | apply pw_below_drewN | apply below_drew1 | refine below_set ?_ (IsS48.ge HI0.out)) | exact HB.out)); rintro e w17 ⟨rfl, hi, hb, hk⟩; refine ⟨_, rfl, ?_⟩; have n0_ := Aside0.mk (KeepBut.trans (by repeat (first | (with_reducible first | exact HK.out | apply KeepBut.set_ | apply keep_drewN | apply keep_drew | apply keep_alloc) | exact HK.out)) hk (.inl rfl)); have n1_ := Aside0.mk (hb); have n2_ := Aside0.mk (hi); clear HK; clear HB; clear HI0; have HK := n0_; have HB := n1_; have HI0 := n2_; clear n0_ n1_ n2_; (try clear hb); (try clear hb2); (try clear hk); (try clear hi)) | ((with_reducible refine gate_callee (f := 69) rfl ?_); refine goesL_ (some 10) rfl rfl Tryd.func69 (by kernel_rfl) rfl #[.string t102, .string (⟨#[47, 47]⟩ : ByteArray)] rfl (by (try simp only [List.map_toArray, List.map_cons, List.map_nil]); first | done | rfl | (simp only [List.length_drop, List.length_take]; rfl)) ?_; (with_reducible refine (strings_HasPrefix.calls t102 (⟨#[47, 47]⟩ : ByteArray) false _ A3.out).mono ?_); rintro e w' ⟨rfl, ⟨nd, rfl⟩⟩; refine ⟨_, rfl, ?_⟩; (try (rw [drewN_self w17]; generalize hq_ : World.drewN w17 _ = w17; have n0_ : Aside0 (IsS48 w0 w17 g t103 t104 t105 s0_3 true) := ⟨by rw [← hq_]; exact (by repeat (first | (with_reducible first | exact HI0.out | apply IsS48.alloc | apply IsS48.drewN | apply IsS48.drew | apply IsS48.set_0 | apply IsS48.set_1 | apply IsS48.set_2 | apply IsS48.set_4) | exact HI0.out))⟩; have n1_ : Aside0 (KeepBut w w17 g none) := ⟨by rw [← hq_]; exact (by repeat (first | (with_reducible first | exact HK.out | apply KeepBut.set_ | apply keep_drewN | apply keep_drew | apply keep_alloc) | exact HK.out))⟩; have n2_ : Aside0 (Below w0.heap.size w0 w17) := ⟨by rw [← hq_]; exact (by repeat (first | (with_reducible first | exact HB.out | apply below_alloc | apply pw_below_drewN | apply below_drew1 | refine below_set ?_ (IsS48.ge HI0.out)) | exact HB.out))⟩; clear HI0 HK HB hq_; have HI0 := n0_; have HK := n1_; have HB := n2_; clear n0_ n1_ n2_))) | ((with_reducible refine gate_callee (f := 69) rfl ?_); refine goesL_ (some 27) rfl rfl Tryd.func69 (by kernel_rfl) rfl #[.string t102, .string (⟨#[47, 42]⟩ : ByteArray)] rfl (by (try simp only [List.map_toArray, List.map_cons, List.map_nil]); first | done | rfl | (simp only [List.length_drop, List.length_take]; rfl)) ?_; (with_reducible refine (strings_HasPrefix.calls t102 (⟨#[47, 42]⟩ : ByteArray) true _ A11.out).mono ?_); rintro e w' ⟨rfl, ⟨nd, rfl⟩⟩; refine ⟨_, rfl, ?_⟩; (try (rw [drewN_self w17]; generalize hq_ : World.drewN w17 _ = w17; have n0_ : Aside0 (IsS48 w0 w17 g t103 t104 t105 s0_3 true) := ⟨by rw [← hq_]; exact (by repeat (first | (with_reducible first | exact HI0.out | apply IsS48.alloc | apply IsS48.drewN | apply IsS48.drew | apply IsS48.set_0 | apply IsS48.set_1 | apply IsS48.set_2 | apply IsS48.set_4) | exact HI0.out))⟩; have n1_ : Aside0 (KeepBut w w17 g none) := ⟨by rw [← hq_]; exact (by repeat (first | (with_reducible first | exact HK.out | apply KeepBut.set_ | apply keep_drewN | apply keep_drew | apply keep_alloc) | exact HK.out))⟩; have n2_ : Aside0 (Below w0.heap.size w0 w17) := ⟨by rw [← hq_]; exact (by repeat (first | (with_reducible first | exact HB.out | apply below_alloc | apply pw_below_drewN | apply below_drew1 | refine below_set ?_ (IsS48.ge HI0.out)) | exact HB.out))⟩; clear HI0 HK HB hq_; have HI0 := n0_; have HK := n1_; have HB := n2_; clear n0_ n1_ n2_))) | ((with_reducible refine gate_callee (f := 78) rfl ?_); refine goesL_ (some 30) rfl rfl Tryd.func78 (by kernel_rfl) rfl #[.string (t102.extract 2 t102.size), .string (⟨#[42, 47]⟩ : ByteArray)] rfl (by (try simp only [List.map_toArray, List.map_cons, List.map_nil]); first | done | rfl | (simp only [List.length_drop, List.length_take]; rfl)) ?_; (with_reducible refine (strings_Index.calls (t102.extract 2 t102.size) (⟨#[42, 47]⟩ : ByteArray) t110 _ ?side1 A14.out).mono ?_); (case side1 => exact Glob.below HGl.out (by repeat (first | (with_reducible first | exact HB.out | apply below_alloc | apply pw_below_drewN | apply below_drew1 | refine below_set ?_ (IsS48.ge HI0.out)) | exact HB.out))); rintro e w18 ⟨rfl, hb⟩; refine ⟨_, rfl, ?_⟩; have n0_ := Aside0.mk (IsS48.below (by repeat (first | (with_reducible first | exact HI0.out | apply IsS48.alloc | apply IsS48.drewN | apply IsS48.drew | apply IsS48.set_0 | apply IsS48.set_1 | apply IsS48.set_2 | apply IsS48.set_4) | exact HI0.out)) hb); have n1_ := Aside0.mk (KeepBut.trans (by repeat (first | (with_reducible first | exact HK.out | apply KeepBut.set_ | apply keep_drewN | apply keep_drew | apply keep_alloc) | exact HK.out)) (KeepBut.of_below hb g none) (.inl rfl)); have n2_ := Aside0.mk (below_step (by repeat (first | (with_reducible first | exact HB.out | apply below_alloc | apply pw_below_drewN | apply below_drew1 | refine below_set ?_ (IsS48.ge HI0.out)) | exact HB.out)) hb); clear HI0; clear HK; clear HB; have HI0 := n0_; have HK := n1_; have HB := n2_; clear n0_ n1_ n2_; (try clear hb); (try clear hb2); (try clear hk); (try clear hi); obtain ⟨ASz19_3, cSz19_3, HGz19, hgz19, HSz19_3⟩ := HI0.out; have hcz19_0 := cellS48_0 HGz19; have hcz19_1 := cellS48_1 HGz19; have hcz19_2 := cellS48_2 HGz19; have hcz19_3 := cellS48_3 HGz19; have hcz19_4 := cellS48_4 HGz19; have hfz19_0 := blk_frozen HGz19 0; have hfz19_1 := blk_frozen HGz19 1; have hfz19_2 := blk_frozen HGz19 2; have hfz19_4 := blk_frozen HGz19 4; clear HGz19 hgz19))
      go_ret
      exact ⟨by first | rfl | (simp [errW_none, errW_some] <;> rfl) | (simp [*, errW_none, errW_some] <;> rfl), by repeat (first | (with_reducible first | exact HI0.out | apply IsS48.alloc | apply IsS48.drewN | apply IsS48.drew | apply IsS48.set_0 | apply IsS48.set_1 | apply IsS48.set_2 | apply IsS48.set_4) | exact HI0.out), by repeat (first | (with_reducible first | exact HB.out | apply below_alloc | apply pw_below_drewN | apply below_drew1 | refine below_set ?_ (IsS48.ge HI0.out)) | exact HB.out), by repeat (first | (with_reducible first | exact HK.out | apply KeepBut.set_ | apply keep_drewN | apply keep_drew | apply keep_alloc) | exact HK.out)⟩
     ·replace c16 := Bool.eq_false_iff.mpr c16
      subst c16
      have H1 : (if 0 ≤ (t102.size : Int) then (if (t102.size : Int) ≤ (t102.size : Int) then ((strings_Contains.f (t102.extract 0 ((t102.size : Int) : Int).toNat) (⟨#[10]⟩ : ByteArray)).bind fun t111 => (some (true, t103, wrap64 (t104 + (t102.size : Int)), t105, t111))) else (none)) else (none)) = some (r1, r2, r3, r4, r5) := by rw [if_neg (show ¬ (false = true) by decide)] at H; exact H
      clear H
      have H := H1
      clear H1
      by_cases c20 : 0 ≤ (t102.size : Int)
      ·rw [if_pos c20] at H
       have c20b0 := eq_true c20
       have c20b1 : decide (0 ≤ (t102.size : Int)) = true := decide_eq_true c20
       clear c20
       by_cases c21 : (t102.size : Int) ≤ (t102.size : Int)
       ·rw [if_pos c21] at H
        have c21b0 := eq_true c21
        have c21b1 : decide ((t102.size : Int) ≤ (t102.size : Int)) = true := decide_eq_true c21
        clear c21
        replace H := Option.bind_eq_some_iff.mp H
        obtain ⟨t111, A220, H⟩ := H
        replace H : (some (true, t103, wrap64 (t104 + (t102.size : Int)), t105, t111)) = some (r1, r2, r3, r4, r5) := H
        have A22 := Aside0.mk A220
        clear A220
        simp only [Option.some.injEq, Prod.mk.injEq] at H
        obtain ⟨rfl, rfl, rfl, rfl, rfl⟩ := H
        go_enter Tryd.func64, Tryd.ntmps64
        go_wp2_with (first | ((with_reducible refine gate_callee (f := 65) rfl ?_); refine goesL_ (some 7) rfl rfl Tryd.func65 (by kernel_rfl) rfl #[.pointer (some ⟨g, 0, none⟩)] rfl (by (try simp only [List.map_toArray, List.map_cons, List.map_nil]); first | done | rfl | (simp only [List.length_drop, List.length_take]; rfl)) ?_; (with_reducible refine (lsc_rest.calls g s0_0 s0_1 s0_2 s0_3 s0_4 t102 t103 t104 t105 false w0 _ ?side1 ?side2 A2.out).mono ?_); (case side1 => repeat (first | (with_reducible first | exact HI0.out | apply IsS48.alloc | apply IsS48.drewN | apply IsS48.drew | apply IsS48.set_0 | apply IsS48.set_1 | apply IsS48.set_2 | apply IsS48.set_4) | exact HI0.out)); (case side2 => repeat (first | (with_reducible first | exact HB.out | apply below_alloc | apply pw_below_drewN | apply below_drew1 | refine below_set ?_ (IsS48.ge HI0.out)) | exact HB.out)); rintro e w23 ⟨rfl, hi, hb, hk⟩; refine ⟨_, rfl, ?_⟩; have n0_ := Aside0.mk (KeepBut.trans (by repeat (first | (with_reducible first | exact HK.out | apply KeepBut.set_ | apply keep_drewN | apply keep_drew | apply keep_alloc) | exact HK.out)) hk (.inl rfl)); have n1_ := Aside0.mk (hb); have n2_ := Aside0.mk (hi); clear HK; clear HB; clear HI0; have HK := n0_; have HB := n1_; have HI0 := n2_; clear n0_ n1_ n2_; (try clear hb); (try clear hb2); (try clear hk); (try clear hi)) | ((with_reducible refine gate_callee (f := 69) rfl ?_); refine goesL_ (some 10) rfl rfl Tryd.func69 (by kernel_rfl) rfl #[.string t102, .string (⟨#[47, 47]⟩ : ByteArray)] rfl (by (try simp only [List.map_toArray, List.map_cons, List.map_nil]); first | done | rfl | (simp only [List.length_drop, List.length_take]; rfl)) ?_; (with_reducible refine (strings_HasPrefix.calls t102 (⟨#[47, 47]⟩ : ByteArray) false _ A3.out).mono ?_); rintro e w' ⟨rfl, ⟨nd, rfl⟩⟩; refine ⟨_, rfl, ?_⟩; (try (rw [drewN_self w23]; generalize hq_ : World.drewN w23 _ = w23; have n0_ : Aside0 (IsS48 w0 w23 g t103 t104 t105 s0_3 false) := ⟨by rw [← hq_]; exact (by repeat (first | (with_reducible first | exact HI0.out | apply IsS48.alloc | apply IsS48.drewN | apply IsS48.drew | apply IsS48.set_0 | apply IsS48.set_1 | apply IsS48.set_2 | apply IsS48.set_4) | exact HI0.out))⟩; have n1_ : Aside0 (KeepBut w w23 g none) := ⟨by rw [← hq_]; exact (by repeat (first | (with_reducible first | exact HK.out | apply KeepBut.set_ | apply keep_drewN | apply keep_drew | apply keep_alloc) | exact HK.out))⟩; have n2_ : Aside0 (Below w0.heap.size w0 w23) := ⟨by rw [← hq_]; exact (by repeat (first | (with_reducible first | exact HB.out | apply below_alloc | apply pw_below_drewN | apply below_drew1 | refine below_set ?_ (IsS48.ge HI0.out)) | exact HB.out))⟩; clear HI0 HK HB hq_; have HI0 := n0_; have HK := n1_; have HB := n2_; clear n0_ n1_ n2_))) | ((with_reducible refine gate_callee (f := 69) rfl ?_); refine goesL_ (some 27) rfl rfl Tryd.func69 (by kernel_rfl) rfl #[.string t102, .string (⟨#[47, 42]⟩ : ByteArray)] rfl (by (try simp only [List.map_toArray, List.map_cons, List.map_nil]); first | done | rfl | (simp only [List.length_drop, List.length_take]; rfl)) ?_; (with_reducible refine (strings_HasPrefix.calls t102 (⟨#[47, 42]⟩ : ByteArray) true _ A11.out).mono ?_); rintro e w' ⟨rfl, ⟨nd, rfl⟩⟩; refine ⟨_, rfl, ?_⟩; (try (rw [drewN_self w23]; generalize hq_ : World.drewN w23 _ = w23; have n0_ : Aside0 (IsS48 w0 w23 g t103 t104 t105 s0_3 false) := ⟨by rw [← hq_]; exact (by repeat (first | (with_reducible first | exact HI0.out | apply IsS48.alloc | apply IsS48.drewN | apply IsS48.drew | apply IsS48.set_0 | apply IsS48.set_1 | apply IsS48.set_2 | apply IsS48.set_4) | exact HI0.out))⟩; have n1_ : Aside0 (KeepBut w w23 g none) := ⟨by rw [← hq_]; exact (by repeat (first | (with_reducible first | exact HK.out | apply KeepBut.set_ | apply keep_drewN | apply keep_drew | apply keep_alloc) | exact HK.out))⟩; have n2_ : Aside0 (Below w0.heap.size w0 w23) := ⟨by rw [← hq_]; exact (by repeat (first | (with_reducible first | exact HB.out | apply below_alloc | apply pw_below_drewN | apply below_drew1 | refine below_set ?_ (IsS48.ge HI0.out)) | exact HB.out))⟩; clear HI0 HK HB hq_; have HI0 := n0_; have HK := n1_; have HB := n2_; clear n0_ n1_ n2_))) | ((with_reducible refine gate_callee (f := 78) rfl ?_); refine goesL_ (some 30) rfl rfl Tryd.func78 (by kernel_rfl) rfl #[.string (t102.extract 2 t102.size), .string (⟨#[42, 47]⟩ : ByteArray)] rfl (by (try simp only [List.map_toArray, List.map_cons, List.map_nil]); first | done | rfl | (simp only [List.length_drop, List.length_take]; rfl)) ?_; (with_reducible refine (strings_Index.calls (t102.extract 2 t102.size) (⟨#[42, 47]⟩ : ByteArray) t110 _ ?side1 A14.out).mono ?_); (case side1 => exact Glob.below HGl.out (by repeat (first | (with_reducible first | exact HB.out | apply below_alloc | apply pw_below_drewN | apply below_drew1 | refine below_set ?_ (IsS48.ge HI0.out)) | exact HB.out))); rintro e w24 ⟨rfl, hb⟩; refine ⟨_, rfl, ?_⟩; have n0_ := Aside0.mk (IsS48.below (by repeat (first | (with_reducible first | exact HI0.out | apply IsS48.alloc | apply IsS48.drewN | apply IsS48.drew | apply IsS48.set_0 | apply IsS48.set_1 | apply IsS48.set_2 | apply IsS48.set_4) | exact HI0.out)) hb); have n1_ := Aside0.mk (KeepBut.trans (by repeat (first | (with_reducible first | exact HK.out | apply KeepBut.set_ | apply keep_drewN | apply keep_drew | apply keep_alloc) | exact HK.out)) (KeepBut.of_below hb g none) (.inl rfl)); have n2_ := Aside0.mk (below_step (by repeat (first | (with_reducible first | exact HB.out | apply below_alloc | apply pw_below_drewN | apply below_drew1 | refine below_set ?_ (IsS48.ge HI0.out)) | exact HB.out)) hb); clear HI0; clear HK; clear HB; have HI0 := n0_; have HK := n1_; have HB := n2_; clear n0_ n1_ n2_; (try clear hb); (try clear hb2); (try clear hk); (try clear hi); obtain ⟨ASz25_3, cSz25_3, HGz25, hgz25, HSz25_3⟩ := HI0.out; have hcz25_0 := cellS48_0 HGz25; have hcz25_1 := cellS48_1 HGz25; have hcz25_2 := cellS48_2 HGz25; have hcz25_3 := cellS48_3 HGz25; have hcz25_4 := cellS48_4 HGz25; have hfz25_0 := blk_frozen HGz25 0; have hfz25_1 := blk_frozen HGz25 1; have hfz25_2 := blk_frozen HGz25 2; have hfz25_4 := blk_frozen HGz25 4; clear HGz25 hgz25) | (go_at_call 79; (with_reducible refine (strings_Contains.calls t102 (⟨#[10]⟩ : ByteArray) t111 _ ?side1 (by have h_ := A22.out; simpa using h_)).mono ?_); (case side1 => exact Glob.below HGl.out (by repeat (first | (with_reducible first | exact HB.out | apply below_alloc | apply pw_below_drewN | apply below_drew1 | refine below_set ?_ (IsS48.ge HI0.out)) | exact HB.out))); rintro e w26 ⟨rfl, hb⟩; have n0_ := Aside0.mk (IsS48.below (by repeat (first | (with_reducible first | exact HI0.out | apply IsS48.alloc | apply IsS48.drewN | apply IsS48.drew | apply IsS48.set_0 | apply IsS48.set_1 | apply IsS48.set_2 | apply IsS48.set_4) | exact HI0.out)) hb); have n1_ := Aside0.mk (KeepBut.trans (by repeat (first | (with_reducible first | exact HK.out | apply KeepBut.set_ | apply keep_drewN | apply keep_drew | apply keep_alloc) | exact HK.out)) (KeepBut.of_below hb g none) (.inl rfl)); have n2_ := Aside0.mk (below_step (by repeat (first | (with_reducible first | exact HB.out | apply below_alloc | apply pw_below_drewN | apply below_drew1 | refine below_set ?_ (IsS48.ge HI0.out)) | exact HB.out)) hb); clear HI0; clear HK; clear HB; have HI0 := n0_; have HK := n1_; have HB := n2_; clear n0_ n1_ n2_; (try clear hb); (try clear hb2); (try clear hk); (try clear hi); obtain ⟨ASz27_3, cSz27_3, HGz27, hgz27, HSz27_3⟩ := HI0.out; have hcz27_0 := cellS48_0 HGz27; have hcz27_1 := cellS48_1 HGz27; have hcz27_2 := cellS48_2 HGz27; have hcz27_3 := cellS48_3 HGz27; have hcz27_4 := cellS48_4 HGz27; have hfz27_0 := blk_frozen HGz27 0; have hfz27_1 := blk_frozen HGz27 1; have hfz27_2 := blk_frozen HGz27 2; have hfz27_4 := blk_frozen HGz27 4; clear HGz27 hgz27))
        go_ret
        exact ⟨by first | rfl | (simp [errW_none, errW_some] <;> rfl) | (simp [*, errW_none, errW_some] <;> rfl), by repeat (first | (with_reducible first | exact HI0.out | apply IsS48.alloc | apply IsS48.drewN | apply IsS48.drew | apply IsS48.set_0 | apply IsS48.set_1 | apply IsS48.set_2 | apply IsS48.set_4) | exact HI0.out), by repeat (first | (with_reducible first | exact HB.out | apply below_alloc | apply pw_below_drewN | apply below_drew1 | refine below_set ?_ (IsS48.ge HI0.out)) | exact HB.out), by repeat (first | (with_reducible first | exact HK.out | apply KeepBut.set_ | apply keep_drewN | apply keep_drew | apply keep_alloc) | exact HK.out)⟩
       ·rw [if_neg c21] at H
        exact absurd H (by simp)
      ·rw [if_neg c20] at H
       exact absurd H (by simp)
    ·rw [if_neg c15] at H
     have c15b0 : decide ((wrap64 (t110 + 4)) < 4) = false := decide_eq_false c15
     clear c15
     by_cases c28 : t106 = true
     ·subst c28
      have H1 : (some (true, t103, wrap64 (t104 + (wrap64 (t110 + 4))), t105, true)) = some (r1, r2, r3, r4, r5) := by rw [if_pos rfl] at H; exact H
      clear H
      have H := H1
      clear H1
      simp only [Option.some.injEq, Prod.mk.injEq] at H
      obtain ⟨rfl, rfl, rfl, rfl, rfl⟩ := H
      go_enter Tryd.func64, Tryd.ntmps64
      go_wp2_with (first | ((with_reducible refine gate_callee (f := 65) rfl ?_); refine goesL_ (some 7) rfl rfl Tryd.func65 (by kernel_rfl) rfl #[.pointer (some ⟨g, 0, none⟩)] rfl (by (try simp only [List.map_toArray, List.map_cons, List.map_nil]); first | done | rfl | (simp only [List.length_drop, List.length_take]; rfl)) ?_; (with_reducible refine (lsc_rest.calls g s0_0 s0_1 s0_2 s0_3 s0_4 t102 t103 t104 t105 true w0 _ ?side1 ?side2 A2.out).mono ?_); (case side1 => repeat (first | (with_reducible first | exact HI0.out | apply IsS48.alloc | apply IsS48.drewN | apply IsS48.drew | apply IsS48.set_0 | apply IsS48.set_1 | apply IsS48.set_2 | apply IsS48.set_4) | exact HI0.out)); (case side2 => repeat (first | (with_reducible first | exact HB.out | apply below_alloc | apply pw_below_drewN | apply below_drew1 | refine below_set ?_ (IsS48.ge HI0.out)) | exact HB.out)); rintro e w29 ⟨rfl, hi, hb, hk⟩; refine ⟨_, rfl, ?_⟩; have n0_ := Aside0.mk (KeepBut.trans (by repeat (first | (with_reducible first | exact HK.out | apply KeepBut.set_ | apply keep_drewN | apply keep_drew | apply keep_alloc) | exact HK.out)) hk (.inl rfl)); have n1_ := Aside0.mk (hb); have n2_ := Aside0.mk (hi); clear HK; clear HB; clear HI0; have HK := n0_; have HB := n1_; have HI0 := n2_; clear n0_ n1_ n2_; (try clear hb); (try clear hb2); (try clear hk); (try clear hi)) | ((with_reducible refine gate_callee (f := 69) rfl ?_); refine goesL_ (some 10) rfl rfl Tryd.func69 (by kernel_rfl) rfl #[.string t102, .string (⟨#[47, 47]⟩ : ByteArray)] rfl (by (try simp only [List.map_toArray, List.map_cons, List.map_nil]); first | done | rfl | (simp only [List.length_drop, List.length_take]; rfl)) ?_; (with_reducible refine (strings_HasPrefix.calls t102 (⟨#[47, 47]⟩ : ByteArray) false _ A3.out).mono ?_); rintro e w' ⟨rfl, ⟨nd, rfl⟩⟩; refine ⟨_, rfl, ?_⟩; (try (rw [drewN_self w29]; generalize hq_ : World.drewN w29 _ = w29; have n0_ : Aside0 (IsS48 w0 w29 g t103 t104 t105 s0_3 true) := ⟨by rw [← hq_]; exact (by repeat (first | (with_reducible first | exact HI0.out | apply IsS48.alloc | apply IsS48.drewN | apply IsS48.drew | apply IsS48.set_0 | apply IsS48.set_1 | apply IsS48.set_2 | apply IsS48.set_4) | exact HI0.out))⟩; have n1_ : Aside0 (KeepBut w w29 g none) := ⟨by rw [← hq_]; exact (by repeat (first | (with_reducible first | exact HK.out | apply KeepBut.set_ | apply keep_drewN | apply keep_drew | apply keep_alloc) | exact HK.out))⟩; have n2_ : Aside0 (Below w0.heap.size w0 w29) := ⟨by rw [← hq_]; exact (by repeat (first | (with_reducible first | exact HB.out | apply below_alloc | apply pw_below_drewN | apply below_drew1 | refine below_set ?_ (IsS48.ge HI0.out)) | exact HB.out))⟩; clear HI0 HK HB hq_; have HI0 := n0_; have HK := n1_; have HB := n2_; clear n0_ n1_ n2_))) | ((with_reducible refine gate_callee (f := 69) rfl ?_); refine goesL_ (some 27) rfl rfl Tryd.func69 (by kernel_rfl) rfl #[.string t102, .string (⟨#[47, 42]⟩ : ByteArray)] rfl (by (try simp only [List.map_toArray, List.map_cons, List.map_nil]); first | done | rfl | (simp only [List.length_drop, List.length_take]; rfl)) ?_; (with_reducible refine (strings_HasPrefix.calls t102 (⟨#[47, 42]⟩ : ByteArray) true _ A11.out).mono ?_); rintro e w' ⟨rfl, ⟨nd, rfl⟩⟩; refine ⟨_, rfl, ?_⟩; (try (rw [drewN_self w29]; generalize hq_ : World.drewN w29 _ = w29; have n0_ : Aside0 (IsS48 w0 w29 g t103 t104 t105 s0_3 true) := ⟨by rw [← hq_]; exact (by repeat (first | (with_reducible first | exact HI0.out | apply IsS48.alloc | apply IsS48.drewN | apply IsS48.drew | apply IsS48.set_0 | apply IsS48.set_1 | apply IsS48.set_2 | apply IsS48.set_4) | exact HI0.out))⟩; have n1_ : Aside0 (KeepBut w w29 g none) := ⟨by rw [← hq_]; exact (by repeat (first | (with_reducible first | exact HK.out | apply KeepBut.set_ | apply keep_drewN | apply keep_drew | apply keep_alloc) | exact HK.out))⟩; have n2_ : Aside0 (Below w0.heap.size w0 w29) := ⟨by rw [← hq_]; exact (by repeat (first | (with_reducible first | exact HB.out | apply below_alloc | apply pw_below_drewN | apply below_drew1 | refine below_set ?_ (IsS48.ge HI0.out)) | exact HB.out))⟩; clear HI0 HK HB hq_; have HI0 := n0_; have HK := n1_; have HB := n2_; clear n0_ n1_ n2_))) | ((with_reducible refine gate_callee (f := 78) rfl ?_); refine goesL_ (some 30) rfl rfl Tryd.func78 (by kernel_rfl) rfl #[.string (t102.extract 2 t102.size), .string (⟨#[42, 47]⟩ : ByteArray)] rfl (by (try simp only [List.map_toArray, List.map_cons, List.map_nil]); first | done | rfl | (simp only [List.length_drop, List.length_take]; rfl)) ?_; (with_reducible refine (strings_Index.calls (t102.extract 2 t102.size) (⟨#[42, 47]⟩ : ByteArray) t110 _ ?side1 A14.out).mono ?_); (case side1 => exact Glob.below HGl.out (by repeat (first | (with_reducible first | exact HB.out | apply below_alloc | apply pw_below_drewN | apply below_drew1 | refine below_set ?_ (IsS48.ge HI0.out)) | exact HB.out))); rintro e w30 ⟨rfl, hb⟩; refine ⟨_, rfl, ?_⟩; have n0_ := Aside0.mk (IsS48.below (by repeat (first | (with_reducible first | exact HI0.out | apply IsS48.alloc | apply IsS48.drewN | apply IsS48.drew | apply IsS48.set_0 | apply IsS48.set_1 | apply IsS48.set_2 | apply IsS48.set_4) | exact HI0.out)) hb); have n1_ := Aside0.mk (KeepBut.trans (by repeat (first | (with_reducible first | exact HK.out | apply KeepBut.set_ | apply keep_drewN | apply keep_drew | apply keep_alloc) | exact HK.out)) (KeepBut.of_below hb g none) (.inl rfl)); have n2_ := Aside0.mk (below_step (by repeat (first | (with_reducible first | exact HB.out | apply below_alloc | apply pw_below_drewN | apply below_drew1 | refine below_set ?_ (IsS48.ge HI0.out)) | exact HB.out)) hb); clear HI0; clear HK; clear HB; have HI0 := n0_; have HK := n1_; have HB := n2_; clear n0_ n1_ n2_; (try clear hb); (try clear hb2); (try clear hk); (try clear hi); obtain ⟨ASz31_3, cSz31_3, HGz31, hgz31, HSz31_3⟩ := HI0.out; have hcz31_0 := cellS48_0 HGz31; have hcz31_1 := cellS48_1 HGz31; have hcz31_2 := cellS48_2 HGz31; have hcz31_3 := cellS48_3 HGz31; have hcz31_4 := cellS48_4 HGz31; have hfz31_0 := blk_frozen HGz31 0; have hfz31_1 := blk_frozen HGz31 1; have hfz31_2 := blk_frozen HGz31 2; have hfz31_4 := blk_frozen HGz31 4; clear HGz31 hgz31))
      go_ret
      exact ⟨by first | rfl | (simp [errW_none, errW_some] <;> rfl) | (simp [*, errW_none, errW_some] <;> rfl), by repeat (first | (with_reducible first | exact HI0.out | apply IsS48.alloc | apply IsS48.drewN | apply IsS48.drew | apply IsS48.set_0 | apply IsS48.set_1 | apply IsS48.set_2 | apply IsS48.set_4) | exact HI0.out), by repeat (first | (with_reducible first | exact HB.out | apply below_alloc | apply pw_below_drewN | apply below_drew1 | refine below_set ?_ (IsS48.ge HI0.out)) | exact HB.out), by repeat (first | (with_reducible first | exact HK.out | apply KeepBut.set_ | apply keep_drewN | apply keep_drew | apply keep_alloc) | exact HK.out)⟩
     ·replace c28 := Bool.eq_false_iff.mpr c28
      subst c28
      have H1 : (if 0 ≤ (wrap64 (t110 + 4)) then (if (wrap64 (t110 + 4)) ≤ (t102.size : Int) then ((strings_Contains.f (t102.extract 0 ((wrap64 (t110 + 4)) : Int).toNat) (⟨#[10]⟩ : ByteArray)).bind fun t112 => (some (true, t103, wrap64 (t104 + (wrap64 (t110 + 4))), t105, t112))) else (none)) else (none)) = some (r1, r2, r3, r4, r5) := by rw [if_neg (show ¬ (false = true) by decide)] at H; exact H
      clear H
      have H := H1
      clear H1
      obtain ⟨ji32, hji32⟩ : ∃ j_ : Int, (wrap64 (t110 + 4)) = j_ := ⟨_, rfl⟩
      replace H : (if 0 ≤ (ji32) then (if (ji32) ≤ (t102.size : Int) then ((strings_Contains.f (t102.extract 0 ((ji32) : Int).toNat) (⟨#[10]⟩ : ByteArray)).bind fun t112 => (some (true, t103, wrap64 (t104 + (ji32)), t105, t112))) else (none)) else (none)) = some (r1, r2, r3, r4, r5) := by first | (rw [hji32] at H; exact H) | (simp only [hji32] at H ⊢; exact H)
      (try rw [hji32] at c15b0)
      (try rw [hji32] at A2)
      (try rw [hji32] at A3)
      (try rw [hji32] at A11)
      (try rw [hji32] at A14)
      have hji32w : (IntKind.i64.wrap (t110 + 4)) = ji32 := (i64_w _).trans hji32
      by_cases c33 : 0 ≤ (ji32)
      ·rw [if_pos c33] at H
       have c33b0 := eq_true c33
       have c33b1 : decide (0 ≤ (ji32)) = true := decide_eq_true c33
       clear c33
       by_cases c34 : (ji32) ≤ (t102.size : Int)
       ·rw [if_pos c34] at H
        have c34b0 := eq_true c34
        have c34b1 : decide ((ji32) ≤ (t102.size : Int)) = true := decide_eq_true c34
        clear c34
        replace H := Option.bind_eq_some_iff.mp H
        obtain ⟨t112, A350, H⟩ := H
        replace H : (some (true, t103, wrap64 (t104 + (ji32)), t105, t112)) = some (r1, r2, r3, r4, r5) := H
        have A35 := Aside0.mk A350
        clear A350
        simp only [Option.some.injEq, Prod.mk.injEq] at H
        obtain ⟨rfl, rfl, rfl, rfl, rfl⟩ := H
        go_enter Tryd.func64, Tryd.ntmps64
        go_wp2_with (first | ((with_reducible refine gate_callee (f := 65) rfl ?_); refine goesL_ (some 7) rfl rfl Tryd.func65 (by kernel_rfl) rfl #[.pointer (some ⟨g, 0, none⟩)] rfl (by (try simp only [List.map_toArray, List.map_cons, List.map_nil]); first | done | rfl | (simp only [List.length_drop, List.length_take]; rfl)) ?_; (with_reducible refine (lsc_rest.calls g s0_0 s0_1 s0_2 s0_3 s0_4 t102 t103 t104 t105 false w0 _ ?side1 ?side2 A2.out).mono ?_); (case side1 => repeat (first | (with_reducible first | exact HI0.out | apply IsS48.alloc | apply IsS48.drewN | apply IsS48.drew | apply IsS48.set_0 | apply IsS48.set_1 | apply IsS48.set_2 | apply IsS48.set_4) | exact HI0.out)); (case side2 => repeat (first | (with_reducible first | exact HB.out | apply below_alloc | apply pw_below_drewN | apply below_drew1 | refine below_set ?_ (IsS48.ge HI0.out)) | exact HB.out)); rintro e w36 ⟨rfl, hi, hb, hk⟩; refine ⟨_, rfl, ?_⟩; have n0_ := Aside0.mk (KeepBut.trans (by repeat (first | (with_reducible first | exact HK.out | apply KeepBut.set_ | apply keep_drewN | apply keep_drew | apply keep_alloc) | exact HK.out)) hk (.inl rfl)); have n1_ := Aside0.mk (hb); have n2_ := Aside0.mk (hi); clear HK; clear HB; clear HI0; have HK := n0_; have HB := n1_; have HI0 := n2_; clear n0_ n1_ n2_; (try clear hb); (try clear hb2); (try clear hk); (try clear hi)) | ((with_reducible refine gate_callee (f := 69) rfl ?_); refine goesL_ (some 10) rfl rfl Tryd.func69 (by kernel_rfl) rfl #[.string t102, .string (⟨#[47, 47]⟩ : ByteArray)] rfl (by (try simp only [List.map_toArray, List.map_cons, List.map_nil]); first | done | rfl | (simp only [List.length_drop, List.length_take]; rfl)) ?_; (with_reducible refine (strings_HasPrefix.calls t102 (⟨#[47, 47]⟩ : ByteArray) false _ A3.out).mono ?_); rintro e w' ⟨rfl, ⟨nd, rfl⟩⟩; refine ⟨_, rfl, ?_⟩; (try (rw [drewN_self w36]; generalize hq_ : World.drewN w36 _ = w36; have n0_ : Aside0 (IsS48 w0 w36 g t103 t104 t105 s0_3 false) := ⟨by rw [← hq_]; exact (by repeat (first | (with_reducible first | exact HI0.out | apply IsS48.alloc | apply IsS48.drewN | apply IsS48.drew | apply IsS48.set_0 | apply IsS48.set_1 | apply IsS48.set_2 | apply IsS48.set_4) | exact HI0.out))⟩; have n1_ : Aside0 (KeepBut w w36 g none) := ⟨by rw [← hq_]; exact (by repeat (first | (with_reducible first | exact HK.out | apply KeepBut.set_ | apply keep_drewN | apply keep_drew | apply keep_alloc) | exact HK.out))⟩; have n2_ : Aside0 (Below w0.heap.size w0 w36) := ⟨by rw [← hq_]; exact (by repeat (first | (with_reducible first | exact HB.out | apply below_alloc | apply pw_below_drewN | apply below_drew1 | refine below_set ?_ (IsS48.ge HI0.out)) | exact HB.out))⟩; clear HI0 HK HB hq_; have HI0 := n0_; have HK := n1_; have HB := n2_; clear n0_ n1_ n2_))) | ((with_reducible refine gate_callee (f := 69) rfl ?_); refine goesL_ (some 27) rfl rfl Tryd.func69 (by kernel_rfl) rfl #[.string t102, .string (⟨#[47, 42]⟩ : ByteArray)] rfl (by (try simp only [List.map_toArray, List.map_cons, List.map_nil]); first | done | rfl | (simp only [List.length_drop, List.length_take]; rfl)) ?_; (with_reducible refine (strings_HasPrefix.calls t102 (⟨#[47, 42]⟩ : ByteArray) true _ A11.out).mono ?_); rintro e w' ⟨rfl, ⟨nd, rfl⟩⟩; refine ⟨_, rfl, ?_⟩; (try (rw [drewN_self w36]; generalize hq_ : World.drewN w36 _ = w36; have n0_ : Aside0 (IsS48 w0 w36 g t103 t104 t105 s0_3 false) := ⟨by rw [← hq_]; exact (by repeat (first | (with_reducible first | exact HI0.out | apply IsS48.alloc | apply IsS48.drewN | apply IsS48.drew | apply IsS48.set_0 | apply IsS48.set_1 | apply IsS48.set_2 | apply IsS48.set_4) | exact HI0.out))⟩; have n1_ : Aside0 (KeepBut w w36 g none) := ⟨by rw [← hq_]; exact (by repeat (first | (with_reducible first | exact HK.out | apply KeepBut.set_ | apply keep_drewN | apply keep_drew | apply keep_alloc) | exact HK.out))⟩; have n2_ : Aside0 (Below w0.heap.size w0 w36) := ⟨by rw [← hq_]; exact (by repeat (first | (with_reducible first | exact HB.out | apply below_alloc | apply pw_below_drewN | apply below_drew1 | refine below_set ?_ (IsS48.ge HI0.out)) | exact HB.out))⟩; clear HI0 HK HB hq_; have HI0 := n0_; have HK := n1_; have HB := n2_; clear n0_ n1_ n2_))) | ((with_reducible refine gate_callee (f := 78) rfl ?_); refine goesL_ (some 30) rfl rfl Tryd.func78 (by kernel_rfl) rfl #[.string (t102.extract 2 t102.size), .string (⟨#[42, 47]⟩ : ByteArray)] rfl (by (try simp only [List.map_toArray, List.map_cons, List.map_nil]); first | done | rfl | (simp only [List.length_drop, List.length_take]; rfl)) ?_; (with_reducible refine (strings_Index.calls (t102.extract 2 t102.size) (⟨#[42, 47]⟩ : ByteArray) t110 _ ?side1 A14.out).mono ?_); (case side1 => exact Glob.below HGl.out (by repeat (first | (with_reducible first | exact HB.out | apply below_alloc | apply pw_below_drewN | apply below_drew1 | refine below_set ?_ (IsS48.ge HI0.out)) | exact HB.out))); rintro e w37 ⟨rfl, hb⟩; refine ⟨_, rfl, ?_⟩; have n0_ := Aside0.mk (IsS48.below (by repeat (first | (with_reducible first | exact HI0.out | apply IsS48.alloc | apply IsS48.drewN | apply IsS48.drew | apply IsS48.set_0 | apply IsS48.set_1 | apply IsS48.set_2 | apply IsS48.set_4) | exact HI0.out)) hb); have n1_ := Aside0.mk (KeepBut.trans (by repeat (first | (with_reducible first | exact HK.out | apply KeepBut.set_ | apply keep_drewN | apply keep_drew | apply keep_alloc) | exact HK.out)) (KeepBut.of_below hb g none) (.inl rfl)); have n2_ := Aside0.mk (below_step (by repeat (first | (with_reducible first | exact HB.out | apply below_alloc | apply pw_below_drewN | apply below_drew1 | refine below_set ?_ (IsS48.ge HI0.out)) | exact HB.out)) hb); clear HI0; clear HK; clear HB; have HI0 := n0_; have HK := n1_; have HB := n2_; clear n0_ n1_ n2_; (try clear hb); (try clear hb2); (try clear hk); (try clear hi); obtain ⟨ASz38_3, cSz38_3, HGz38, hgz38, HSz38_3⟩ := HI0.out; have hcz38_0 := cellS48_0 HGz38; have hcz38_1 := cellS48_1 HGz38; have hcz38_2 := cellS48_2 HGz38; have hcz38_3 := cellS48_3 HGz38; have hcz38_4 := cellS48_4 HGz38; have hfz38_0 := blk_frozen HGz38 0; have hfz38_1 := blk_frozen HGz38 1; have hfz38_2 := blk_frozen HGz38 2; have hfz38_4 := blk_frozen HGz38 4; clear HGz38 hgz38) | (go_at_call 79; (with_reducible refine (strings_Contains.calls (t102.extract 0 ((ji32) : Int).toNat) (⟨#[10]⟩ : ByteArray) t112 _ ?side1 A35.out).mono ?_); (case side1 => exact Glob.below HGl.out (by repeat (first | (with_reducible first | exact HB.out | apply below_alloc | apply pw_below_drewN | apply below_drew1 | refine below_set ?_ (IsS48.ge HI0.out)) | exact HB.out))); rintro e w39 ⟨rfl, hb⟩; have n0_ := Aside0.mk (IsS48.below (by repeat (first | (with_reducible first | exact HI0.out | apply IsS48.alloc | apply IsS48.drewN | apply IsS48.drew | apply IsS48.set_0 | apply IsS48.set_1 | apply IsS48.set_2 | apply IsS48.set_4) | exact HI0.out)) hb); have n1_ := Aside0.mk (KeepBut.trans (by repeat (first | (with_reducible first | exact HK.out | apply KeepBut.set_ | apply keep_drewN | apply keep_drew | apply keep_alloc) | exact HK.out)) (KeepBut.of_below hb g none) (.inl rfl)); have n2_ := Aside0.mk (below_step (by repeat (first | (with_reducible first | exact HB.out | apply below_alloc | apply pw_below_drewN | apply below_drew1 | refine below_set ?_ (IsS48.ge HI0.out)) | exact HB.out)) hb); clear HI0; clear HK; clear HB; have HI0 := n0_; have HK := n1_; have HB := n2_; clear n0_ n1_ n2_; (try clear hb); (try clear hb2); (try clear hk); (try clear hi); obtain ⟨ASz40_3, cSz40_3, HGz40, hgz40, HSz40_3⟩ := HI0.out; have hcz40_0 := cellS48_0 HGz40; have hcz40_1 := cellS48_1 HGz40; have hcz40_2 := cellS48_2 HGz40; have hcz40_3 := cellS48_3 HGz40; have hcz40_4 := cellS48_4 HGz40; have hfz40_0 := blk_frozen HGz40 0; have hfz40_1 := blk_frozen HGz40 1; have hfz40_2 := blk_frozen HGz40 2; have hfz40_4 := blk_frozen HGz40 4; clear HGz40 hgz40))
        go_ret
        exact ⟨by first | rfl | (simp [errW_none, errW_some] <;> rfl) | (simp only [← hji32]; first | rfl | (simp [errW_none, errW_some] <;> rfl)) | (simp [*, errW_none, errW_some] <;> rfl), by repeat (first | (with_reducible first | exact HI0.out | apply IsS48.alloc | apply IsS48.drewN | apply IsS48.drew | apply IsS48.set_0 | apply IsS48.set_1 | apply IsS48.set_2 | apply IsS48.set_4) | exact HI0.out), by repeat (first | (with_reducible first | exact HB.out | apply below_alloc | apply pw_below_drewN | apply below_drew1 | refine below_set ?_ (IsS48.ge HI0.out)) | exact HB.out), by repeat (first | (with_reducible first | exact HK.out | apply KeepBut.set_ | apply keep_drewN | apply keep_drew | apply keep_alloc) | exact HK.out)⟩
       ·rw [if_neg c34] at H
        exact absurd H (by simp)
      ·rw [if_neg c33] at H
       exact absurd H (by simp)
   ·rw [if_neg c13] at H
    exact absurd H (by simp)
  ·replace c12 := Bool.eq_false_iff.mpr c12
   subst c12
   have H1 : (some (false, t103, t104, t105, t106)) = some (r1, r2, r3, r4, r5) := by rw [if_neg (show ¬ (false = true) by decide)] at H; exact H
   clear H
   have H := H1
   clear H1
   simp only [Option.some.injEq, Prod.mk.injEq] at H
   obtain ⟨rfl, rfl, rfl, rfl, rfl⟩ := H
   go_enter Tryd.func64, Tryd.ntmps64
   go_wp2_with (first | ((with_reducible refine gate_callee (f := 65) rfl ?_); refine goesL_ (some 7) rfl rfl Tryd.func65 (by kernel_rfl) rfl #[.pointer (some ⟨g, 0, none⟩)] rfl (by (try simp only [List.map_toArray, List.map_cons, List.map_nil]); first | done | rfl | (simp only [List.length_drop, List.length_take]; rfl)) ?_; (with_reducible refine (lsc_rest.calls g s0_0 s0_1 s0_2 s0_3 s0_4 t102 t103 t104 t105 t106 w0 _ ?side1 ?side2 A2.out).mono ?_); (case side1 => repeat (first | (with_reducible first | exact HI0.out | apply IsS48.alloc | apply IsS48.drewN | apply IsS48.drew | apply IsS48.set_0 | apply IsS48.set_1 | apply IsS48.set_2 | apply IsS48.set_4) | exact HI0.out)); (case side2 => repeat (first | (with_reducible first | exact HB.out | apply below_alloc | apply pw_below_drewN | apply below_drew1 | refine below_set ?_ (IsS48.ge HI0.out)) | exact HB.out)); rintro e w41 ⟨rfl, hi, hb, hk⟩; refine ⟨_, rfl, ?_⟩; have n0_ := Aside0.mk (KeepBut.trans (by repeat (first | (with_reducible first | exact HK.out | apply KeepBut.set_ | apply keep_drewN | apply keep_drew | apply keep_alloc) | exact HK.out)) hk (.inl rfl)); have n1_ := Aside0.mk (hb); have n2_ := Aside0.mk (hi); clear HK; clear HB; clear HI0; have HK := n0_; have HB := n1_; have HI0 := n2_; clear n0_ n1_ n2_; (try clear hb); (try clear hb2); (try clear hk); (try clear hi)) | ((with_reducible refine gate_callee (f := 69) rfl ?_); refine goesL_ (some 10) rfl rfl Tryd.func69 (by kernel_rfl) rfl #[.string t102, .string (⟨#[47, 47]⟩ : ByteArray)] rfl (by (try simp only [List.map_toArray, List.map_cons, List.map_nil]); first | done | rfl | (simp only [List.length_drop, List.length_take]; rfl)) ?_; (with_reducible refine (strings_HasPrefix.calls t102 (⟨#[47, 47]⟩ : ByteArray) false _ A3.out).mono ?_); rintro e w' ⟨rfl, ⟨nd, rfl⟩⟩; refine ⟨_, rfl, ?_⟩) | ((with_reducible refine gate_callee (f := 69) rfl ?_); refine goesL_ (some 27) rfl rfl Tryd.func69 (by kernel_rfl) rfl #[.string t102, .string (⟨#[47, 42]⟩ : ByteArray)] rfl (by (try simp only [List.map_toArray, List.map_cons, List.map_nil]); first | done | rfl | (simp only [List.length_drop, List.length_take]; rfl)) ?_; (with_reducible refine (strings_HasPrefix.calls t102 (⟨#[47, 42]⟩ : ByteArray) false _ A11.out).mono ?_); rintro e w' ⟨rfl, ⟨nd, rfl⟩⟩; refine ⟨_, rfl, ?_⟩))
   go_ret
   exact ⟨by first | rfl | (simp [errW_none, errW_some] <;> rfl) | (simp [*, errW_none, errW_some] <;> rfl), by repeat (first | (with_reducible first | exact HI0.out | apply IsS48.alloc | apply IsS48.drewN | apply IsS48.drew | apply IsS48.set_0 | apply IsS48.set_1 | apply IsS48.set_2 | apply IsS48.set_4) | exact HI0.out), by repeat (first | (with_reducible first | exact HB.out | apply below_alloc | apply pw_below_drewN | apply below_drew1 | refine below_set ?_ (IsS48.ge HI0.out)) | exact HB.out), by repeat (first | (with_reducible first | exact HK.out | apply KeepBut.set_ | apply keep_drewN | apply keep_drew | apply keep_alloc) | exact HK.out)⟩

end Go.Proofs.YtabnmkakgcifoaaDoor.PLex

namespace Go.Proofs.YtabnmkakgcifoaaDoor.PLex
open Go.RowKit Go.Proofs.YtabnmkakgcifoaaDoorW.PrintWords Go.Proofs.YtabnmkakgcifoaaDoorW.PrintLast Go.Proofs.YtabnmkakgcifoaaDoorW.PrintMore
attribute [local go_sem] max2_int min2_int max_two min_two max_three min_three max_four min_four   -- for this text's walks alone
set_option linter.unusedVariables false
set_option linter.unusedSimpArgs false

mutual
def lsc_before.l0 : Nat → Int → ByteArray → Int → Option Nat → List ByteArray → Bool → Option (ByteArray × ByteArray × Int × Option Nat × Bool)
 | 0, _, _, _, _, _, _ => none
 | k + 1, x3, x1000, x1001, x1002, x1003, x1004 => if x1001 < (x1000.size : Int) then (if 0 ≤ x1001 then (if (bt x1000 x1001) = 10 then (lsc_before.l0 k x3 x1000 (wrap64 (x1001 + 1)) x1002 x1003 true) else (if (bt x1000 x1001) = 32 then (lsc_before.j1 k x3 (bt x1000 x1001) true x1000 x1001 x1002 x1003 x1004) else (lsc_before.j1 k x3 (bt x1000 x1001) ((bt x1000 x1001) == 9) x1000 x1001 x1002 x1003 x1004))) else (none)) else (if 0 ≤ x3 then (if x3 ≤ (x1000.size : Int) then (some (x1000.extract (x3 : Int).toNat x1000.size, x1000, x1001, x1002, x1004)) else (none)) else (none))
def lsc_before.j1 : Nat → Int → Int → Bool → ByteArray → Int → Option Nat → List ByteArray → Bool → Option (ByteArray × ByteArray × Int × Option Nat × Bool)
 | 0, _, _, _, _, _, _, _, _ => none
 | k + 1, x3, x4, x51, x1000, x1001, x1002, x1003, x1004 => if x51 = true then (lsc_before.l0 k x3 x1000 (wrap64 (x1001 + 1)) x1002 x1003 x1004) else (if x4 = 11 then (lsc_before.j2 k x3 x4 true x1000 x1001 x1002 x1003 x1004) else (if x4 = 12 then (lsc_before.j2 k x3 x4 true x1000 x1001 x1002 x1003 x1004) else (lsc_before.j2 k x3 x4 (x4 == 13) x1000 x1001 x1002 x1003 x1004)))
def lsc_before.j2 : Nat → Int → Int → Bool → ByteArray → Int → Option Nat → List ByteArray → Bool → Option (ByteArray × ByteArray × Int × Option Nat × Bool)
 | 0, _, _, _, _, _, _, _, _ => none
 | k + 1, x3, x4, x65, x1000, x1001, x1002, x1003, x1004 => if x65 = true then (lsc_before.l0 k x3 x1000 (wrap64 (x1001 + 1)) x1002 x1003 false) else (if x4 = 92 then ((lsc_next.f x1000 x1001 x1002 x1003 x1004 1).bind fun bt113 => (lsc_before.j3 k x3 x4 (bt113.1 == 10) bt113.2.1 bt113.2.2.1 bt113.2.2.2.1 x1003 bt113.2.2.2.2)) else (lsc_before.j3 k x3 x4 false x1000 x1001 x1002 x1003 x1004))
def lsc_before.j3 : Nat → Int → Int → Bool → ByteArray → Int → Option Nat → List ByteArray → Bool → Option (ByteArray × ByteArray × Int × Option Nat × Bool)
 | 0, _, _, _, _, _, _, _, _ => none
 | k + 1, x3, x4, x86, x1000, x1001, x1002, x1003, x1004 => if x86 = true then (lsc_before.l0 k x3 x1000 (wrap64 (x1001 + 2)) x1002 x1003 true) else (if x4 = 92 then ((lsc_next.f x1000 x1001 x1002 x1003 x1004 1).bind fun bt118 => (if bt118.1 = 13 then ((lsc_next.f bt118.2.1 bt118.2.2.1 bt118.2.2.2.1 x1003 bt118.2.2.2.2 2).bind fun bt123 => (lsc_before.j4 k x3 (bt123.1 == 10) bt123.2.1 bt123.2.2.1 bt123.2.2.2.1 x1003 bt123.2.2.2.2)) else (lsc_before.j4 k x3 false bt118.2.1 bt118.2.2.1 bt118.2.2.2.1 x1003 bt118.2.2.2.2))) else (lsc_before.j4 k x3 false x1000 x1001 x1002 x1003 x1004))
def lsc_before.j4 : Nat → Int → Bool → ByteArray → Int → Option Nat → List ByteArray → Bool → Option (ByteArray × ByteArray × Int × Option Nat × Bool)
 | 0, _, _, _, _, _, _, _ => none
 | k + 1, x3, x104, x1000, x1001, x1002, x1003, x1004 => if x104 = true then (lsc_before.l0 k x3 x1000 (wrap64 (x1001 + 3)) x1002 x1003 true) else ((lsc_comment.f x1000 x1001 x1002 x1003 x1004).bind fun bt128 => (if bt128.1 = true then (lsc_before.l0 k x3 bt128.2.1 bt128.2.2.1 bt128.2.2.2.1 x1003 bt128.2.2.2.2) else (if 0 ≤ x3 then (if x3 ≤ bt128.2.2.1 then (if bt128.2.2.1 ≤ (bt128.2.1.size : Int) then (some (bt128.2.1.extract (x3 : Int).toNat (bt128.2.2.1 : Int).toNat, bt128.2.1, bt128.2.2.1, bt128.2.2.2.1, bt128.2.2.2.2)) else (none)) else (none)) else (none))))
end
def lsc_before.f (k : Nat) (s0_0 : ByteArray) (s0_1 : Int) (s0_2 : Option Nat) (s0_3 : List ByteArray) (s0_4 : Bool) : Option (ByteArray × ByteArray × Int × Option Nat × Bool) := lsc_before.l0 k s0_1 s0_0 s0_1 s0_2 s0_3 s0_4
set_option maxHeartbeats 8000000 in
set_option maxRecDepth 100000 in
theorem lsc_before.calls (k : Nat) (g : Nat) (s0_0 : ByteArray) (s0_1 : Int) (s0_2 : Option Nat) (s0_3 : List ByteArray) (s0_4 : Bool) (r1 : ByteArray) (r2 : ByteArray) (r3 : Int) (r4 : Option Nat) (r5 : Bool) (w0 w : World) (hI : IsS48 w0 w g s0_0 s0_1 s0_2 s0_3 s0_4) (hB : Below w0.heap.size w0 w) (hGl : Glob w0) (h : lsc_before.f k s0_0 s0_1 s0_2 s0_3 s0_4 = some (r1, r2, r3, r4, r5)) :
  Calls Tryd.prog 44 #[.pointer (some ⟨g, 0, none⟩)] w fun e w' => e = .returned (.string r1) ∧ IsS48 w0 w' g r2 r3 r4 s0_3 r5 ∧ Below w0.heap.size w0 w' ∧ KeepBut w w' g none := by
 have HI0 := Aside0.mk hI
 have HK := Aside0.mk (KeepBut.refl w g none)
 have HL := Aside0.mk hB.size
 clear hI
 have HW0 := Aside0.mk hB.size
 have HB := Aside0.mk hB
 clear hB
 have HGl := Aside0.mk hGl
 clear hGl
 have H : (lsc_before.l0 k s0_1 s0_0 s0_1 s0_2 s0_3 s0_4) = some (r1, r2, r3, r4, r5) := h
 clear h
 have H' := Aside0.mk H
 clear H
 obtain ⟨ASz2_3, cSz2_3, HGz2, hgz2, HSz2_3⟩ := HI0.out
 have hcz2_0 := cellS48_0 HGz2
 have hcz2_1 := cellS48_1 HGz2
 have hcz2_2 := cellS48_2 HGz2
 have hcz2_3 := cellS48_3 HGz2
 have hcz2_4 := cellS48_4 HGz2
 have hfz2_0 := blk_frozen HGz2 0
 have hfz2_1 := blk_frozen HGz2 1
 have hfz2_2 := blk_frozen HGz2 2
 have hfz2_4 := blk_frozen HGz2 4
 clear HGz2 hgz2
 go_enter Tryd.func44, Tryd.ntmps44
 go_wp2
 repeat (go_quiet (fail); try go_wp2)
 try simp only [Act.put, List.setIfInBounds_toArray, List.set_cons_succ, List.set_cons_zero]
 go_loopg [] k (fun kq w' => ∃ (x1000_1 : ByteArray) (x1001_1 : Int) (x1002_1 : Option Nat) (x1004_1 : Bool), Aside0 (lsc_before.l0 kq s0_1 x1000_1 x1001_1 x1002_1 s0_3 x1004_1 = some (r1, r2, r3, r4, r5)) ∧ Aside0 (kq ≤ k) ∧ Aside0 (IsS48 w0 w' g x1000_1 x1001_1 x1002_1 s0_3 x1004_1) ∧ Aside0 (KeepBut w w' g none) ∧ Aside0 (Below w0.heap.size w0 w'))
 case atStart => exact ⟨(s0_0), (s0_1), (s0_2), (s0_4), H', ⟨Nat.le_refl _⟩, ⟨by repeat (first | (with_reducible first | exact HI0.out | apply IsS48.alloc | apply IsS48.drewN | apply IsS48.drew | apply IsS48.set_0 | apply IsS48.set_1 | apply IsS48.set_2 | apply IsS48.set_4) | exact HI0.out)⟩, ⟨by repeat (first | (with_reducible first | exact HK.out | apply KeepBut.set_ | apply keep_drewN | apply keep_drew | apply keep_alloc) | exact HK.out)⟩, ⟨by repeat (first | (with_reducible first | exact HB.out | apply below_alloc | apply pw_below_drewN | apply below_drew1 | refine below_set ?_ (IsS48.ge HI0.out)) | exact HB.out)⟩⟩
 case round =>
  clear H'
  try clear p2
  try clear hcz2_0
  try clear hcz2_1
  try clear hcz2_2
  try clear hcz2_3
  try clear hcz2_4
  try clear hfz2_0
  try clear hfz2_1
  try clear hfz2_2
  try clear hfz2_4
  obtain ⟨x1000_1, x1001_1, x1002_1, x1004_1, HA, HK1, HI0, HK, HB⟩ := hrel
  cases gk with
  | zero => exact absurd HA.out (by simp [lsc_before.l0])
  | succ k1 =>
   have H := HA.out
   clear HA
   simp only [lsc_before.l0] at H
   by_cases c3 : x1001_1 < (x1000_1.size : Int)
   ·rw [if_pos c3] at H
    have c3b0 : decide (x1001_1 < (x1000_1.size : Int)) = true := decide_eq_true c3
    clear c3
    by_cases c4 : 0 ≤ x1001_1
    ·rw [if_pos c4] at H
     have c4b0 : decide (0 ≤ x1001_1) = true := decide_eq_true c4
     clear c4
     by_cases c6 : (bt x1000_1 x1001_1) = 10
     ·rw [if_pos c6] at H
      have c6b0 : ((bt x1000_1 x1001_1) == 10) = true := beq_iff_eq.mpr c6
      have c6b1 : ((bt x1000_1 x1001_1) != 10) = false := bne_eq_false_iff_eq.mpr c6
      clear c6
      have H' := Aside0.mk H
      clear H
      obtain ⟨ASz7_3, cSz7_3, HGz7, hgz7, HSz7_3⟩ := HI0.out
      have hcz7_0 := cellS48_0 HGz7
      have hcz7_1 := cellS48_1 HGz7
      have hcz7_2 := cellS48_2 HGz7
      have hcz7_3 := cellS48_3 HGz7
      have hcz7_4 := cellS48_4 HGz7
      have hfz7_0 := blk_frozen HGz7 0
      have hfz7_1 := blk_frozen HGz7 1
      have hfz7_2 := blk_frozen HGz7 2
      have hfz7_4 := blk_frozen HGz7 4
      clear HGz7 hgz7
      have p5 : 0 ≤ (x1001_1 : Int) := of_decide_eq_true (by first | (with_reducible assumption) | assumption)
      have q5 : x1001_1 < (x1000_1.size : Int) := of_decide_eq_true (by first | (with_reducible assumption) | assumption)
      have hx5 := bt_at x1000_1 x1001_1
      replace p5 := eq_true p5
      replace q5 := eq_true q5
      go_wp2
      repeat (go_quiet (fail); try go_wp2)
      go_roundg k1
      case measure => have := HK1.out; omega
      case rel => exact ⟨(x1000_1), (wrap64 (x1001_1 + 1)), (x1002_1), (true), H', ⟨by have := HK1.out; omega⟩, ⟨by repeat (first | (with_reducible first | exact HI0.out | apply IsS48.alloc | apply IsS48.drewN | apply IsS48.drew | apply IsS48.set_0 | apply IsS48.set_1 | apply IsS48.set_2 | apply IsS48.set_4) | exact HI0.out)⟩, ⟨by repeat (first | (with_reducible first | exact HK.out | apply KeepBut.set_ | apply keep_drewN | apply keep_drew | apply keep_alloc) | exact HK.out)⟩, ⟨by repeat (first | (with_reducible first | exact HB.out | apply below_alloc | apply pw_below_drewN | apply below_drew1 | refine below_set ?_ (IsS48.ge HI0.out)) | exact HB.out)⟩⟩
     ·rw [if_neg c6] at H
      have c6b0 : ((bt x1000_1 x1001_1) == 10) = false := beq_eq_false_iff_ne.mpr c6
      have c6b1 : ((bt x1000_1 x1001_1) != 10) = true := bne_iff_ne.mpr c6
      have HC8 := Aside0.mk H
      clear H
      obtain ⟨ASz9_3, cSz9_3, HGz9, hgz9, HSz9_3⟩ := HI0.out
      have hcz9_0 := cellS48_0 HGz9
      have hcz9_1 := cellS48_1 HGz9
      have hcz9_2 := cellS48_2 HGz9
      have hcz9_3 := cellS48_3 HGz9
      have hcz9_4 := cellS48_4 HGz9
      have hfz9_0 := blk_frozen HGz9 0
      have hfz9_1 := blk_frozen HGz9 1
      have hfz9_2 := blk_frozen HGz9 2
      have hfz9_4 := blk_frozen HGz9 4
      clear HGz9 hgz9
      have p5 : 0 ≤ (x1001_1 : Int) := of_decide_eq_true (by first | (with_reducible assumption) | assumption)
      have q5 : x1001_1 < (x1000_1.size : Int) := of_decide_eq_true (by first | (with_reducible assumption) | assumption)
      have hx5 := bt_at x1000_1 x1001_1
      replace p5 := eq_true p5
      replace q5 := eq_true q5
      go_upto_region 8 with (fail)
      repeat (go_quiet (fail); go_upto_region 8 with (fail))
      go_cut [51] (fun v51 wc => ∃ (kq : Nat) (x51_7 : Bool), v51 = .bool x51_7 ∧ Aside0 (lsc_before.j1 kq s0_1 (bt x1000_1 x1001_1) x51_7 x1000_1 x1001_1 x1002_1 s0_3 x1004_1 = some (r1, r2, r3, r4, r5)) ∧ Aside0 (kq ≤ k1) ∧ Aside0 (IsS48 w0 wc g x1000_1 x1001_1 x1002_1 s0_3 x1004_1) ∧ Aside0 (KeepBut w wc g none) ∧ Aside0 (Below w0.heap.size w0 wc))
      case first =>
       have H := HC8.out
       clear HC8
       by_cases c10 : (bt x1000_1 x1001_1) = 32
       ·rw [if_pos c10] at H
        have c10b0 : ((bt x1000_1 x1001_1) == 32) = true := beq_iff_eq.mpr c10
        have c10b1 : ((bt x1000_1 x1001_1) != 32) = false := bne_eq_false_iff_eq.mpr c10
        clear c10
        (first | rw [c10b0] | (simp only [i64_w, i32_w]; rw [c10b0]) | skip)
        have H' := Aside0.mk H
        clear H
        go_wp2
        repeat (go_quiet (fail); try go_wp2)
        go_meet
        case rel => exact ⟨_, (true), (by first | rfl | (simp; done) | (simp [*]; done)), H', ⟨by have := HK1.out; first | omega | exact Nat.le_refl _⟩, ⟨by repeat (first | (with_reducible first | exact HI0.out | apply IsS48.alloc | apply IsS48.drewN | apply IsS48.drew | apply IsS48.set_0 | apply IsS48.set_1 | apply IsS48.set_2 | apply IsS48.set_4) | exact HI0.out)⟩, ⟨by repeat (first | (with_reducible first | exact HK.out | apply KeepBut.set_ | apply keep_drewN | apply keep_drew | apply keep_alloc) | exact HK.out)⟩, ⟨by repeat (first | (with_reducible first | exact HB.out | apply below_alloc | apply pw_below_drewN | apply below_drew1 | refine below_set ?_ (IsS48.ge HI0.out)) | exact HB.out)⟩⟩
       ·rw [if_neg c10] at H
        have c10b0 : ((bt x1000_1 x1001_1) == 32) = false := beq_eq_false_iff_ne.mpr c10
        have c10b1 : ((bt x1000_1 x1001_1) != 32) = true := bne_iff_ne.mpr c10
        (first | rw [c10b0] | (simp only [i64_w, i32_w]; rw [c10b0]) | skip)
        have H' := Aside0.mk H
        clear H
        go_wp2
        repeat (go_quiet (fail); try go_wp2)
        go_meet
        case rel => exact ⟨_, (((bt x1000_1 x1001_1) == 9)), (by first | rfl | (simp; done) | (simp [*]; done)), H', ⟨by have := HK1.out; first | omega | exact Nat.le_refl _⟩, ⟨by repeat (first | (with_reducible first | exact HI0.out | apply IsS48.alloc | apply IsS48.drewN | apply IsS48.drew | apply IsS48.set_0 | apply IsS48.set_1 | apply IsS48.set_2 | apply IsS48.set_4) | exact HI0.out)⟩, ⟨by repeat (first | (with_reducible first | exact HK.out | apply KeepBut.set_ | apply keep_drewN | apply keep_drew | apply keep_alloc) | exact HK.out)⟩, ⟨by repeat (first | (with_reducible first | exact HB.out | apply below_alloc | apply pw_below_drewN | apply below_drew1 | refine below_set ?_ (IsS48.ge HI0.out)) | exact HB.out)⟩⟩
      case rest =>
       clear HC8
       try clear c1
       try clear p2
       try clear c3
       try clear c3b0
       try clear c4
       try clear c4b0
       try clear p5
       try clear q5
       try clear hx5
       try clear c6
       try clear c6b0
       try clear c6b1
       try clear p6
       try clear c10
       try clear c10b0
       try clear c10b1
       try clear hcz2_0
       try clear hcz2_1
       try clear hcz2_2
       try clear hcz2_3
       try clear hcz2_4
       try clear hcz7_0
       try clear hcz7_1
       try clear hcz7_2
       try clear hcz7_3
       try clear hcz7_4
       try clear hcz9_0
       try clear hcz9_1
       try clear hcz9_2
       try clear hcz9_3
       try clear hcz9_4
       try clear hfz2_0
       try clear hfz2_1
       try clear hfz2_2
       try clear hfz2_4
       try clear hfz7_0
       try clear hfz7_1
       try clear hfz7_2
       try clear hfz7_4
       try clear hfz9_0
       try clear hfz9_1
       try clear hfz9_2
       try clear hfz9_4
       try clear p2
       try clear p5
       try clear q5
       obtain ⟨kq, x51_7, rfl, HA, HJ7, HI0, HK, HB⟩ := hcut
       cases kq with
       | zero => exact absurd HA.out (by simp [lsc_before.j1])
       | succ kj7 =>
        have H := HA.out
        clear HA
        simp only [lsc_before.j1] at H
        by_cases c11 : x51_7 = true
        ·subst c11
         have H1 : (lsc_before.l0 kj7 s0_1 x1000_1 (wrap64 (x1001_1 + 1)) x1002_1 s0_3 x1004_1) = some (r1, r2, r3, r4, r5) := by rw [if_pos rfl] at H; exact H
         clear H
         have H := H1
         clear H1
         have H' := Aside0.mk H
         clear H
         obtain ⟨ASz12_3, cSz12_3, HGz12, hgz12, HSz12_3⟩ := HI0.out
         have hcz12_0 := cellS48_0 HGz12
         have hcz12_1 := cellS48_1 HGz12
         have hcz12_2 := cellS48_2 HGz12
         have hcz12_3 := cellS48_3 HGz12
         have hcz12_4 := cellS48_4 HGz12
         have hfz12_0 := blk_frozen HGz12 0
         have hfz12_1 := blk_frozen HGz12 1
         have hfz12_2 := blk_frozen HGz12 2
         have hfz12_4 := blk_frozen HGz12 4
         clear HGz12 hgz12
         go_wp2
         repeat (go_quiet (fail); try go_wp2)
         go_roundg kj7
         case measure => have := HK1.out; have := HJ7.out; omega
         case rel => exact ⟨(x1000_1), (wrap64 (x1001_1 + 1)), (x1002_1), (x1004_1), H', ⟨by have := HK1.out; have := HJ7.out; omega⟩, ⟨by repeat (first | (with_reducible first | exact HI0.out | apply IsS48.alloc | apply IsS48.drewN | apply IsS48.drew | apply IsS48.set_0 | apply IsS48.set_1 | apply IsS48.set_2 | apply IsS48.set_4) | exact HI0.out)⟩, ⟨by repeat (first | (with_reducible first | exact HK.out | apply KeepBut.set_ | apply keep_drewN | apply keep_drew | apply keep_alloc) | exact HK.out)⟩, ⟨by repeat (first | (with_reducible first | exact HB.out | apply below_alloc | apply pw_below_drewN | apply below_drew1 | refine below_set ?_ (IsS48.ge HI0.out)) | exact HB.out)⟩⟩
        ·replace c11 := Bool.eq_false_iff.mpr c11
         subst c11
         have H1 : (if (bt x1000_1 x1001_1) = 11 then (lsc_before.j2 kj7 s0_1 (bt x1000_1 x1001_1) true x1000_1 x1001_1 x1002_1 s0_3 x1004_1) else (if (bt x1000_1 x1001_1) = 12 then (lsc_before.j2 kj7 s0_1 (bt x1000_1 x1001_1) true x1000_1 x1001_1 x1002_1 s0_3 x1004_1) else (lsc_before.j2 kj7 s0_1 (bt x1000_1 x1001_1) ((bt x1000_1 x1001_1) == 13) x1000_1 x1001_1 x1002_1 s0_3 x1004_1))) = some (r1, r2, r3, r4, r5) := by rw [if_neg (show ¬ (false = true) by decide)] at H; exact H
         clear H
         have H := H1
         clear H1
         have HC13 := Aside0.mk H
         clear H
         go_upto_region 10 with (fail)
         repeat (go_quiet (fail); go_upto_region 10 with (fail))
         go_cut [65] (fun v65 wc => ∃ (kq : Nat) (x65_12 : Bool), v65 = .bool x65_12 ∧ Aside0 (lsc_before.j2 kq s0_1 (bt x1000_1 x1001_1) x65_12 x1000_1 x1001_1 x1002_1 s0_3 x1004_1 = some (r1, r2, r3, r4, r5)) ∧ Aside0 (kq ≤ kj7) ∧ Aside0 (IsS48 w0 wc g x1000_1 x1001_1 x1002_1 s0_3 x1004_1) ∧ Aside0 (KeepBut w wc g none) ∧ Aside0 (Below w0.heap.size w0 wc))
         case first =>
          have H := HC13.out
          clear HC13
          by_cases c14 : (bt x1000_1 x1001_1) = 11
          ·rw [if_pos c14] at H
           have c14b0 : ((bt x1000_1 x1001_1) == 11) = true := beq_iff_eq.mpr c14
           have c14b1 : ((bt x1000_1 x1001_1) != 11) = false := bne_eq_false_iff_eq.mpr c14
           clear c14
           (first | rw [c14b0] | (simp only [i64_w, i32_w]; rw [c14b0]) | skip)
           have H' := Aside0.mk H
           clear H
           go_wp2
           repeat (go_quiet (fail); try go_wp2)
           go_meet
           case rel => exact ⟨_, (true), (by first | rfl | (simp; done) | (simp [*]; done)), H', ⟨by have := HK1.out; have := HJ7.out; first | omega | exact Nat.le_refl _⟩, ⟨by repeat (first | (with_reducible first | exact HI0.out | apply IsS48.alloc | apply IsS48.drewN | apply IsS48.drew | apply IsS48.set_0 | apply IsS48.set_1 | apply IsS48.set_2 | apply IsS48.set_4) | exact HI0.out)⟩, ⟨by repeat (first | (with_reducible first | exact HK.out | apply KeepBut.set_ | apply keep_drewN | apply keep_drew | apply keep_alloc) | exact HK.out)⟩, ⟨by repeat (first | (with_reducible first | exact HB.out | apply below_alloc | apply pw_below_drewN | apply below_drew1 | refine below_set ?_ (IsS48.ge HI0.out)) | exact HB.out)⟩⟩
          ·rw [if_neg c14] at H
           have c14b0 : ((bt x1000_1 x1001_1) == 11) = false := beq_eq_false_iff_ne.mpr c14
           have c14b1 : ((bt x1000_1 x1001_1) != 11) = true := bne_iff_ne.mpr c14
           (first | rw [c14b0] | (simp only [i64_w, i32_w]; rw [c14b0]) | skip)
           by_cases c15 : (bt x1000_1 x1001_1) = 12
           ·rw [if_pos c15] at H
            have c15b0 : ((bt x1000_1 x1001_1) == 12) = true := beq_iff_eq.mpr c15
            have c15b1 : ((bt x1000_1 x1001_1) != 12) = false := bne_eq_false_iff_eq.mpr c15
            clear c15
            have H' := Aside0.mk H
            clear H
            go_wp2
            repeat (go_quiet (fail); try go_wp2)
            go_meet
            case rel => exact ⟨_, (true), (by first | rfl | (simp; done) | (simp [*]; done)), H', ⟨by have := HK1.out; have := HJ7.out; first | omega | exact Nat.le_refl _⟩, ⟨by repeat (first | (with_reducible first | exact HI0.out | apply IsS48.alloc | apply IsS48.drewN | apply IsS48.drew | apply IsS48.set_0 | apply IsS48.set_1 | apply IsS48.set_2 | apply IsS48.set_4) | exact HI0.out)⟩, ⟨by repeat (first | (with_reducible first | exact HK.out | apply KeepBut.set_ | apply keep_drewN | apply keep_drew | apply keep_alloc) | exact HK.out)⟩, ⟨by repeat (first | (with_reducible first | exact HB.out | apply below_alloc | apply pw_below_drewN | apply below_drew1 | refine below_set ?_ (IsS48.ge HI0.out)) | exact HB.out)⟩⟩
           ·rw [if_neg c15] at H
            have c15b0 : ((bt x1000_1 x1001_1) == 12) = false := beq_eq_false_iff_ne.mpr c15
            have c15b1 : ((bt x1000_1 x1001_1) != 12) = true := bne_iff_ne.mpr c15
            have H' := Aside0.mk H
            clear H
            go_wp2
            repeat (go_quiet (fail); try go_wp2)
            go_meet
            case rel => exact ⟨_, (((bt x1000_1 x1001_1) == 13)), (by first | rfl | (simp; done) | (simp [*]; done)), H', ⟨by have := HK1.out; have := HJ7.out; first | omega | exact Nat.le_refl _⟩, ⟨by repeat (first | (with_reducible first | exact HI0.out | apply IsS48.alloc | apply IsS48.drewN | apply IsS48.drew | apply IsS48.set_0 | apply IsS48.set_1 | apply IsS48.set_2 | apply IsS48.set_4) | exact HI0.out)⟩, ⟨by repeat (first | (with_reducible first | exact HK.out | apply KeepBut.set_ | apply keep_drewN | apply keep_drew | apply keep_alloc) | exact HK.out)⟩, ⟨by repeat (first | (with_reducible first | exact HB.out | apply below_alloc | apply pw_below_drewN | apply below_drew1 | refine below_set ?_ (IsS48.ge HI0.out)) | exact HB.out)⟩⟩
         case rest =>
          clear HC13
          try clear c1
          try clear p2
          try clear c3
          try clear c3b0
          try clear c4
          try clear c4b0
          try clear p5
          try clear q5
          try clear hx5
          try clear c6
          try clear c6b0
          try clear c6b1
          try clear p6
          try clear c10
          try clear c10b0
          try clear c10b1
          try clear c11
          try clear c14
          try clear c14b0
          try clear c14b1
          try clear c15
          try clear c15b0
          try clear c15b1
          try clear hcz12_0
          try clear hcz12_1
          try clear hcz12_2
          try clear hcz12_3
          try clear hcz12_4
          try clear hcz2_0
          try clear hcz2_1
          try clear hcz2_2
          try clear hcz2_3
          try clear hcz2_4
          try clear hcz7_0
          try clear hcz7_1
          try clear hcz7_2
          try clear hcz7_3
          try clear hcz7_4
          try clear hcz9_0
          try clear hcz9_1
          try clear hcz9_2
          try clear hcz9_3
          try clear hcz9_4
          try clear hfz12_0
          try clear hfz12_1
          try clear hfz12_2
          try clear hfz12_4
          try clear hfz2_0
          try clear hfz2_1
          try clear hfz2_2
          try clear hfz2_4
          try clear hfz7_0
          try clear hfz7_1
          try clear hfz7_2
          try clear hfz7_4
          try clear hfz9_0
          try clear hfz9_1
          try clear hfz9_2
          try clear hfz9_4
          try clear p2
          try clear p5
          try clear p6
          try clear q5
          obtain ⟨kq, x65_12, rfl, HA, HJ12, HI0, HK, HB⟩ := hcut
          cases kq with
          | zero => exact absurd HA.out (by simp [lsc_before.j2])
          | succ kj12 =>
           have H := HA.out
           clear HA
           simp only [lsc_before.j2] at H
           by_cases c16 : x65_12 = true
           ·subst c16
            have H1 : (lsc_before.l0 kj12 s0_1 x1000_1 (wrap64 (x1001_1 + 1)) x1002_1 s0_3 false) = some (r1, r2, r3, r4, r5) := by rw [if_pos rfl] at H; exact H
            clear H
            have H := H1
            clear H1
            have H' := Aside0.mk H
            clear H
            obtain ⟨ASz17_3, cSz17_3, HGz17, hgz17, HSz17_3⟩ := HI0.out
            have hcz17_0 := cellS48_0 HGz17
            have hcz17_1 := cellS48_1 HGz17
            have hcz17_2 := cellS48_2 HGz17
            have hcz17_3 := cellS48_3 HGz17
            have hcz17_4 := cellS48_4 HGz17
            have hfz17_0 := blk_frozen HGz17 0
            have hfz17_1 := blk_frozen HGz17 1
            have hfz17_2 := blk_frozen HGz17 2
            have hfz17_4 := blk_frozen HGz17 4
            clear HGz17 hgz17
            go_wp2
            repeat (go_quiet (fail); try go_wp2)
            go_roundg kj12
            case measure => have := HK1.out; have := HJ7.out; have := HJ12.out; omega
            case rel => exact ⟨(x1000_1), (wrap64 (x1001_1 + 1)), (x1002_1), (false), H', ⟨by have := HK1.out; have := HJ7.out; have := HJ12.out; omega⟩, ⟨by repeat (first | (with_reducible first | exact HI0.out | apply IsS48.alloc | apply IsS48.drewN | apply IsS48.drew | apply IsS48.set_0 | apply IsS48.set_1 | apply IsS48.set_2 | apply IsS48.set_4) | exact HI0.out)⟩, ⟨by repeat (first | (with_reducible first | exact HK.out | apply KeepBut.set_ | apply keep_drewN | apply keep_drew | apply keep_alloc) | exact HK.out)⟩, ⟨by repeat (first | (with_reducible first | exact HB.out | apply below_alloc | apply pw_below_drewN | apply below_drew1 | refine below_set ?_ (IsS48.ge HI0.out)) | exact HB.out)⟩⟩
           ·replace c16 := Bool.eq_false_iff.mpr c16
            subst c16
            have H1 : (if (bt x1000_1 x1001_1) = 92 then ((lsc_next.f x1000_1 x1001_1 x1002_1 s0_3 x1004_1 1).bind fun bt113 => (lsc_before.j3 kj12 s0_1 (bt x1000_1 x1001_1) (bt113.1 == 10) bt113.2.1 bt113.2.2.1 bt113.2.2.2.1 s0_3 bt113.2.2.2.2)) else (lsc_before.j3 kj12 s0_1 (bt x1000_1 x1001_1) false x1000_1 x1001_1 x1002_1 s0_3 x1004_1)) = some (r1, r2, r3, r4, r5) := by rw [if_neg (show ¬ (false = true) by decide)] at H; exact H
            clear H
            have H := H1
            clear H1
            have HC18 := Aside0.mk H
            clear H
            go_upto_region 13 with (fail)
            repeat (go_quiet (fail); go_upto_region 13 with (fail))
            go_cut [86] (fun v86 wc => ∃ (kq : Nat) (x86_17 : Bool) (x1000_17 : ByteArray) (x1001_17 : Int) (x1002_17 : Option Nat) (x1004_17 : Bool), v86 = .bool x86_17 ∧ Aside0 (lsc_before.j3 kq s0_1 (bt x1000_1 x1001_1) x86_17 x1000_17 x1001_17 x1002_17 s0_3 x1004_17 = some (r1, r2, r3, r4, r5)) ∧ Aside0 (kq ≤ kj12) ∧ Aside0 (IsS48 w0 wc g x1000_17 x1001_17 x1002_17 s0_3 x1004_17) ∧ Aside0 (KeepBut w wc g none) ∧ Aside0 (Below w0.heap.size w0 wc))
            case first =>
             have H := HC18.out
             clear HC18
             by_cases c19 : (bt x1000_1 x1001_1) = 92
             ·rw [if_pos c19] at H
              have c19b0 : ((bt x1000_1 x1001_1) == 92) = true := beq_iff_eq.mpr c19
              have c19b1 : ((bt x1000_1 x1001_1) != 92) = false := bne_eq_false_iff_eq.mpr c19
              clear c19
              (first | rw [c19b0] | (simp only [i64_w, i32_w]; rw [c19b0]) | skip)
              replace H := Option.bind_eq_some_iff.mp H
              obtain ⟨⟨t113, t114, t115, t116, t117⟩, A200, H⟩ := H
              replace H : (lsc_before.j3 kj12 s0_1 (bt x1000_1 x1001_1) (t113 == 10) t114 t115 t116 s0_3 t117) = some (r1, r2, r3, r4, r5) := H
              have A20 := Aside0.mk A200
              clear A200
              have H' := Aside0.mk H
              clear H
              go_wp2_with (first | (go_at_call 63; (with_reducible refine (lsc_next.calls g x1000_1 x1001_1 x1002_1 s0_3 x1004_1 1 t113 t114 t115 t116 t117 w0 _ ?side1 ?side2 A20.out).mono ?_); (case side1 => repeat (first | (with_reducible first | exact HI0.out | apply IsS48.alloc | apply IsS48.drewN | apply IsS48.drew | apply IsS48.set_0 | apply IsS48.set_1 | apply IsS48.set_2 | apply IsS48.set_4) | exact HI0.out)); (case side2 => repeat (first | (with_reducible first | exact HB.out | apply below_alloc | apply pw_below_drewN | apply below_drew1 | refine below_set ?_ (IsS48.ge HI0.out)) | exact HB.out)); rintro e w21 ⟨rfl, hi, hb, hk⟩; have n0_ := Aside0.mk (KeepBut.trans (by repeat (first | (with_reducible first | exact HK.out | apply KeepBut.set_ | apply keep_drewN | apply keep_drew | apply keep_alloc) | exact HK.out)) hk (.inl rfl)); have n1_ := Aside0.mk (hb); have n2_ := Aside0.mk (hi); clear HK; clear HB; clear HI0; have HK := n0_; have HB := n1_; have HI0 := n2_; clear n0_ n1_ n2_; (try clear hb); (try clear hb2); (try clear hk); (try clear hi)))
              repeat (go_quiet (first | (go_at_call 63; (with_reducible refine (lsc_next.calls g x1000_1 x1001_1 x1002_1 s0_3 x1004_1 1 t113 t114 t115 t116 t117 w0 _ ?side1 ?side2 A20.out).mono ?_); (case side1 => repeat (first | (with_reducible first | exact HI0.out | apply IsS48.alloc | apply IsS48.drewN | apply IsS48.drew | apply IsS48.set_0 | apply IsS48.set_1 | apply IsS48.set_2 | apply IsS48.set_4) | exact HI0.out)); (case side2 => repeat (first | (with_reducible first | exact HB.out | apply below_alloc | apply pw_below_drewN | apply below_drew1 | refine below_set ?_ (IsS48.ge HI0.out)) | exact HB.out)); rintro e w21 ⟨rfl, hi, hb, hk⟩; have n0_ := Aside0.mk (KeepBut.trans (by repeat (first | (with_reducible first | exact HK.out | apply KeepBut.set_ | apply keep_drewN | apply keep_drew | apply keep_alloc) | exact HK.out)) hk (.inl rfl)); have n1_ := Aside0.mk (hb); have n2_ := Aside0.mk (hi); clear HK; clear HB; clear HI0; have HK := n0_; have HB := n1_; have HI0 := n2_; clear n0_ n1_ n2_; (try clear hb); (try clear hb2); (try clear hk); (try clear hi))); try go_wp2_with (first | (go_at_call 63; (with_reducible refine (lsc_next.calls g x1000_1 x1001_1 x1002_1 s0_3 x1004_1 1 t113 t114 t115 t116 t117 w0 _ ?side1 ?side2 A20.out).mono ?_); (case side1 => repeat (first | (with_reducible first | exact HI0.out | apply IsS48.alloc | apply IsS48.drewN | apply IsS48.drew | apply IsS48.set_0 | apply IsS48.set_1 | apply IsS48.set_2 | apply IsS48.set_4) | exact HI0.out)); (case side2 => repeat (first | (with_reducible first | exact HB.out | apply below_alloc | apply pw_below_drewN | apply below_drew1 | refine below_set ?_ (IsS48.ge HI0.out)) | exact HB.out)); rintro e w21 ⟨rfl, hi, hb, hk⟩; have n0_ := Aside0.mk (KeepBut.trans (by repeat (first | (with_reducible first | exact HK.out | apply KeepBut.set_ | apply keep_drewN | apply keep_drew | apply keep_alloc) | exact HK.out)) hk (.inl rfl)); have n1_ := Aside0.mk (hb); have n2_ := Aside0.mk (hi); clear HK; clear HB; clear HI0; have HK := n0_; have HB := n1_; have HI0 := n2_; clear n0_ n1_ n2_; (try clear hb); (try clear hb2); (try clear hk); (try clear hi))))
              go_meet
              case rel => exact ⟨_, ((t113 == 10)), (t114), (t115), (t116), (t117), (by first | rfl | (simp; done) | (simp [*]; done)), H', ⟨by have := HK1.out; have := HJ7.out; have := HJ12.out; first | omega | exact Nat.le_refl _⟩, ⟨by repeat (first | (with_reducible first | exact HI0.out | apply IsS48.alloc | apply IsS48.drewN | apply IsS48.drew | apply IsS48.set_0 | apply IsS48.set_1 | apply IsS48.set_2 | apply IsS48.set_4) | exact HI0.out)⟩, ⟨by repeat (first | (with_reducible first | exact HK.out | apply KeepBut.set_ | apply keep_drewN | apply keep_drew | apply keep_alloc) | exact HK.out)⟩, ⟨by repeat (first | (with_reducible first | exact HB.out | apply below_alloc | apply pw_below_drewN | apply below_drew1 | refine below_set ?_ (IsS48.ge HI0.out)) | exact HB.out)⟩⟩
             ·rw [if_neg c19] at H
              have c19b0 : ((bt x1000_1 x1001_1) == 92) = false := beq_eq_false_iff_ne.mpr c19
              have c19b1 : ((bt x1000_1 x1001_1) != 92) = true := bne_iff_ne.mpr c19
              (first | rw [c19b0] | (simp only [i64_w, i32_w]; rw [c19b0]) | skip)
              have H' := Aside0.mk H
              clear H
              go_wp2
              repeat (go_quiet (fail); try go_wp2)
              go_meet
              case rel => exact ⟨_, (false), (x1000_1), (x1001_1), (x1002_1), (x1004_1), (by first | rfl | (simp; done) | (simp [*]; done)), H', ⟨by have := HK1.out; have := HJ7.out; have := HJ12.out; first | omega | exact Nat.le_refl _⟩, ⟨by repeat (first | (with_reducible first | exact HI0.out | apply IsS48.alloc | apply IsS48.drewN | apply IsS48.drew | apply IsS48.set_0 | apply IsS48.set_1 | apply IsS48.set_2 | apply IsS48.set_4) | exact HI0.out)⟩, ⟨by repeat (first | (with_reducible first | exact HK.out | apply KeepBut.set_ | apply keep_drewN | apply keep_drew | apply keep_alloc) | exact HK.out)⟩, ⟨by repeat (first | (with_reducible first | exact HB.out | apply below_alloc | apply pw_below_drewN | apply below_drew1 | refine below_set ?_ (IsS48.ge HI0.out)) | exact HB.out)⟩⟩
            case rest =>
             clear HC18
             try clear c1
             try clear p2
             try clear c3
             try clear c3b0
             try clear c4
             try clear c4b0
             try clear p5
             try clear q5
             try clear hx5
             try clear c6
             try clear c6b0
             try clear c6b1
             try clear p6
             try clear c10
             try clear c10b0
             try clear c10b1
             try clear c11
             try clear c14
             try clear c14b0
             try clear c14b1
             try clear c15
             try clear c15b0
             try clear c15b1
             try clear c16
             try clear c19
             try clear c19b0
             try clear c19b1
             try clear hcz12_0
             try clear hcz12_1
             try clear hcz12_2
             try clear hcz12_3
             try clear hcz12_4
             try clear hcz17_0
             try clear hcz17_1
             try clear hcz17_2
             try clear hcz17_3
             try clear hcz17_4
             try clear hcz2_0
             try clear hcz2_1
             try clear hcz2_2
             try clear hcz2_3
             try clear hcz2_4
             try clear hcz7_0
             try clear hcz7_1
             try clear hcz7_2
             try clear hcz7_3
             try clear hcz7_4
             try clear hcz9_0
             try clear hcz9_1
             try clear hcz9_2
             try clear hcz9_3
             try clear hcz9_4
             try clear hfz12_0
             try clear hfz12_1
             try clear hfz12_2
             try clear hfz12_4
             try clear hfz17_0
             try clear hfz17_1
             try clear hfz17_2
             try clear hfz17_4
             try clear hfz2_0
             try clear hfz2_1
             try clear hfz2_2
             try clear hfz2_4
             try clear hfz7_0
             try clear hfz7_1
             try clear hfz7_2
             try clear hfz7_4
             try clear hfz9_0
             try clear hfz9_1
             try clear hfz9_2
             try clear hfz9_4
             try clear p2
             try clear p5
             try clear p6
             try clear q5
             obtain ⟨kq, x86_17, x1000_17, x1001_17, x1002_17, x1004_17, rfl, HA, HJ17, HI0, HK, HB⟩ := hcut
             cases kq with
             | zero => exact absurd HA.out (by simp [lsc_before.j3])
             | succ kj17 =>
              have H := HA.out
              clear HA
              simp only [lsc_before.j3] at H
              by_cases c22 : x86_17 = true
              ·subst c22
               have H1 : (lsc_before.l0 kj17 s0_1 x1000_17 (wrap64 (x1001_17 + 2)) x1002_17 s0_3 true) = some (r1, r2, r3, r4, r5) := by rw [if_pos rfl] at H; exact H
               clear H
               have H := H1
               clear H1
               have H' := Aside0.mk H
               clear H
               obtain ⟨ASz23_3, cSz23_3, HGz23, hgz23, HSz23_3⟩ := HI0.out
               have hcz23_0 := cellS48_0 HGz23
               have hcz23_1 := cellS48_1 HGz23
               have hcz23_2 := cellS48_2 HGz23
               have hcz23_3 := cellS48_3 HGz23
               have hcz23_4 := cellS48_4 HGz23
               have hfz23_0 := blk_frozen HGz23 0
               have hfz23_1 := blk_frozen HGz23 1
               have hfz23_2 := blk_frozen HGz23 2
               have hfz23_4 := blk_frozen HGz23 4
               clear HGz23 hgz23
               go_wp2
               repeat (go_quiet (fail); try go_wp2)
               go_roundg kj17
               case measure => have := HK1.out; have := HJ7.out; have := HJ12.out; have := HJ17.out; omega
               case rel => exact ⟨(x1000_17), (wrap64 (x1001_17 + 2)), (x1002_17), (true), H', ⟨by have := HK1.out; have := HJ7.out; have := HJ12.out; have := HJ17.out; omega⟩, ⟨by repeat (first | (with_reducible first | exact HI0.out | apply IsS48.alloc | apply IsS48.drewN | apply IsS48.drew | apply IsS48.set_0 | apply IsS48.set_1 | apply IsS48.set_2 | apply IsS48.set_4) | exact HI0.out)⟩, ⟨by repeat (first | (with_reducible first | exact HK.out | apply KeepBut.set_ | apply keep_drewN | apply keep_drew | apply keep_alloc) | exact HK.out)⟩, ⟨by repeat (first | (with_reducible first | exact HB.out | apply below_alloc | apply pw_below_drewN | apply below_drew1 | refine below_set ?_ (IsS48.ge HI0.out)) | exact HB.out)⟩⟩
              ·replace c22 := Bool.eq_false_iff.mpr c22
               subst c22
               have H1 : (if (bt x1000_1 x1001_1) = 92 then ((lsc_next.f x1000_17 x1001_17 x1002_17 s0_3 x1004_17 1).bind fun bt118 => (if bt118.1 = 13 then ((lsc_next.f bt118.2.1 bt118.2.2.1 bt118.2.2.2.1 s0_3 bt118.2.2.2.2 2).bind fun bt123 => (lsc_before.j4 kj17 s0_1 (bt123.1 == 10) bt123.2.1 bt123.2.2.1 bt123.2.2.2.1 s0_3 bt123.2.2.2.2)) else (lsc_before.j4 kj17 s0_1 false bt118.2.1 bt118.2.2.1 bt118.2.2.2.1 s0_3 bt118.2.2.2.2))) else (lsc_before.j4 kj17 s0_1 false x1000_17 x1001_17 x1002_17 s0_3 x1004_17)) = some (r1, r2, r3, r4, r5) := by rw [if_neg (show ¬ (false = true) by decide)] at H; exact H
               clear H
               have H := H1
               clear H1
               have HC24 := Aside0.mk H
               clear H
               go_upto_region 16 with (fail)
               repeat (go_quiet (fail); go_upto_region 16 with (fail))
               go_cut [104] (fun v104 wc => ∃ (kq : Nat) (x104_23 : Bool) (x1000_23 : ByteArray) (x1001_23 : Int) (x1002_23 : Option Nat) (x1004_23 : Bool), v104 = .bool x104_23 ∧ Aside0 (lsc_before.j4 kq s0_1 x104_23 x1000_23 x1001_23 x1002_23 s0_3 x1004_23 = some (r1, r2, r3, r4, r5)) ∧ Aside0 (kq ≤ kj17) ∧ Aside0 (IsS48 w0 wc g x1000_23 x1001_23 x1002_23 s0_3 x1004_23) ∧ Aside0 (KeepBut w wc g none) ∧ Aside0 (Below w0.heap.size w0 wc))
               case first =>
                have H := HC24.out
                clear HC24
                by_cases c25 : (bt x1000_1 x1001_1) = 92
                ·rw [if_pos c25] at H
                 have c25b0 : ((bt x1000_1 x1001_1) == 92) = true := beq_iff_eq.mpr c25
                 have c25b1 : ((bt x1000_1 x1001_1) != 92) = false := bne_eq_false_iff_eq.mpr c25
                 clear c25
                 (first | rw [c25b0] | (simp only [i64_w, i32_w]; rw [c25b0]) | skip)
                 replace H := Option.bind_eq_some_iff.mp H
                 obtain ⟨⟨t118, t119, t120, t121, t122⟩, A260, H⟩ := H
                 replace H : (if t118 = 13 then ((lsc_next.f t119 t120 t121 s0_3 t122 2).bind fun bt123 => (lsc_before.j4 kj17 s0_1 (bt123.1 == 10) bt123.2.1 bt123.2.2.1 bt123.2.2.2.1 s0_3 bt123.2.2.2.2)) else (lsc_before.j4 kj17 s0_1 false t119 t120 t121 s0_3 t122)) = some (r1, r2, r3, r4, r5) := H
                 have A26 := Aside0.mk A260
                 clear A260
                 by_cases c27 : t118 = 13
                 ·rw [if_pos c27] at H
                  have c27b0 : (t118 == 13) = true := beq_iff_eq.mpr c27
                  have c27b1 : (t118 != 13) = false := bne_eq_false_iff_eq.mpr c27
                  clear c27
                  replace H := Option.bind_eq_some_iff.mp H
                  obtain ⟨⟨t123, t124, t125, t126, t127⟩, A280, H⟩ := H
                  replace H : (lsc_before.j4 kj17 s0_1 (t123 == 10) t124 t125 t126 s0_3 t127) = some (r1, r2, r3, r4, r5) := H
                  have A28 := Aside0.mk A280
                  clear A280
                  have H' := Aside0.mk H
                  clear H
                  go_wp2_with (first | (go_at_call 63; (with_reducible refine (lsc_next.calls g x1000_17 x1001_17 x1002_17 s0_3 x1004_17 1 t118 t119 t120 t121 t122 w0 _ ?side1 ?side2 A26.out).mono ?_); (case side1 => repeat (first | (with_reducible first | exact HI0.out | apply IsS48.alloc | apply IsS48.drewN | apply IsS48.drew | apply IsS48.set_0 | apply IsS48.set_1 | apply IsS48.set_2 | apply IsS48.set_4) | exact HI0.out)); (case side2 => repeat (first | (with_reducible first | exact HB.out | apply below_alloc | apply pw_below_drewN | apply below_drew1 | refine below_set ?_ (IsS48.ge HI0.out)) | exact HB.out)); rintro e w29 ⟨rfl, hi, hb, hk⟩; have n0_ := Aside0.mk (KeepBut.trans (by repeat (first | (with_reducible first | exact HK.out | apply KeepBut.set_ | apply keep_drewN | apply keep_drew | apply keep_alloc) | exact HK.out)) hk (.inl rfl)); have n1_ := Aside0.mk (hb); have n2_ := Aside0.mk (hi); clear HK; clear HB; clear HI0; have HK := n0_; have HB := n1_; have HI0 := n2_; clear n0_ n1_ n2_; (try clear hb); (try clear hb2); (try clear hk); (try clear hi)) | (go_at_call 63; (with_reducible refine (lsc_next.calls g t119 t120 t121 s0_3 t122 2 t123 t124 t125 t126 t127 w0 _ ?side1 ?side2 A28.out).mono ?_); (case side1 => repeat (first | (with_reducible first | exact HI0.out | apply IsS48.alloc | apply IsS48.drewN | apply IsS48.drew | apply IsS48.set_0 | apply IsS48.set_1 | apply IsS48.set_2 | apply IsS48.set_4) | exact HI0.out)); (case side2 => repeat (first | (with_reducible first | exact HB.out | apply below_alloc | apply pw_below_drewN | apply below_drew1 | refine below_set ?_ (IsS48.ge HI0.out)) | exact HB.out)); rintro e w30 ⟨rfl, hi, hb, hk⟩; have n0_ := Aside0.mk (KeepBut.trans (by repeat (first | (with_reducible first | exact HK.out | apply KeepBut.set_ | apply keep_drewN | apply keep_drew | apply keep_alloc) | exact HK.out)) hk (.inl rfl)); have n1_ := Aside0.mk (hb); have n2_ := Aside0.mk (hi); clear HK; clear HB; clear HI0; have HK := n0_; have HB := n1_; have HI0 := n2_; clear n0_ n1_ n2_; (try clear hb); (try clear hb2); (try clear hk); (try clear hi)))
                  repeat (go_quiet (first | (go_at_call 63; (with_reducible refine (lsc_next.calls g x1000_17 x1001_17 x1002_17 s0_3 x1004_17 1 t118 t119 t120 t121 t122 w0 _ ?side1 ?side2 A26.out).mono ?_); (case side1 => repeat (first | (with_reducible first | exact HI0.out | apply IsS48.alloc | apply IsS48.drewN | apply IsS48.drew | apply IsS48.set_0 | apply IsS48.set_1 | apply IsS48.set_2 | apply IsS48.set_4) | exact HI0.out)); (case side2 => repeat (first | (with_reducible first | exact HB.out | apply below_alloc | apply pw_below_drewN | apply below_drew1 | refine below_set ?_ (IsS48.ge HI0.out)) | exact HB.out)); rintro e w29 ⟨rfl, hi, hb, hk⟩; have n0_ := Aside0.mk (KeepBut.trans (by repeat (first | (with_reducible first | exact HK.out | apply KeepBut.set_ | apply keep_drewN | apply keep_drew | apply keep_alloc) | exact HK.out)) hk (.inl rfl)); have n1_ := Aside0.mk (hb); have n2_ := Aside0.mk (hi); clear HK; clear HB; clear HI0; have HK := n0_; have HB := n1_; have HI0 := n2_; clear n0_ n1_ n2_; (try clear hb); (try clear hb2); (try clear hk); (try clear hi)) | (go_at_call 63; (with_reducible refine (lsc_next.calls g t119 t120 t121 s0_3 t122 2 t123 t124 t125 t126 t127 w0 _ ?side1 ?side2 A28.out).mono ?_); (case side1 => repeat (first | (with_reducible first | exact HI0.out | apply IsS48.alloc | apply IsS48.drewN | apply IsS48.drew | apply IsS48.set_0 | apply IsS48.set_1 | apply IsS48.set_2 | apply IsS48.set_4) | exact HI0.out)); (case side2 => repeat (first | (with_reducible first | exact HB.out | apply below_alloc | apply pw_below_drewN | apply below_drew1 | refine below_set ?_ (IsS48.ge HI0.out)) | exact HB.out)); rintro e w30 ⟨rfl, hi, hb, hk⟩; have n0_ := Aside0.mk (KeepBut.trans (by repeat (first | (with_reducible first | exact HK.out | apply KeepBut.set_ | apply keep_drewN | apply keep_drew | apply keep_alloc) | exact HK.out)) hk (.inl rfl)); have n1_ := Aside0.mk (hb); have n2_ := Aside0.mk (hi); clear HK; clear HB; clear HI0; have HK := n0_; have HB := n1_; have HI0 := n2_; clear n0_ n1_ n2_; (try clear hb); (try clear hb2); (try clear hk); (try clear hi))); try go_wp2_with (first | (go_at_call 63; (with_reducible refine (lsc_next.calls g x1000_17 x1001_17 x1002_17 s0_3 x1004_17 1 t118 t119 t120 t121 t122 w0 _ ?side1 ?side2 A26.out).mono ?_); (case side1 => repeat (first | (with_reducible first | exact HI0.out | apply IsS48.alloc | apply IsS48.drewN | apply IsS48.drew | apply IsS48.set_0 | apply IsS48.set_1 | apply IsS48.set_2 | apply IsS48.set_4) | exact HI0.out)); (case side2 => repeat (first | (with_reducible first | exact HB.out | apply below_alloc | apply pw_below_drewN | apply below_drew1 | refine below_set ?_ (IsS48.ge HI0.out)) | exact HB.out)); rintro e w29 ⟨rfl, hi, hb, hk⟩; have n0_ := Aside0.mk (KeepBut.trans (by repeat (first | (with_reducible first | exact HK.out | apply KeepBut.set_ | apply keep_drewN | apply keep_drew | apply keep_alloc) | exact HK.out)) hk (.inl rfl)); have n1_ := Aside0.mk (hb); have n2_ := Aside0.mk (hi); clear HK; clear HB; clear HI0; have HK := n0_; have HB := n1_; have HI0 := n2_; clear n0_ n1_ n2_; (try clear hb); (try clear hb2); (try clear hk); (try clear hi)) | (go_at_call 63; (with_reducible refine (lsc_next.calls g t119 t120 t121 s0_3 t122 2 t123 t124 t125 t126 t127 w0 _ ?side1 ?side2 A28.out).mono ?_); (case side1 => repeat (first | (with_reducible first | exact HI0.out | apply IsS48.alloc | apply IsS48.drewN | apply IsS48.drew | apply IsS48.set_0 | apply IsS48.set_1 | apply IsS48.set_2 | apply IsS48.set_4) | exact HI0.out)); (case side2 => repeat (first | (with_reducible first | exact HB.out | apply below_alloc | apply pw_below_drewN | apply below_drew1 | refine below_set ?_ (IsS48.ge HI0.out)) | exact HB.out)); rintro e w30 ⟨rfl, hi, hb, hk⟩; have n0_ := Aside0.mk (KeepBut.trans (by repeat (first | (with_reducible first | exact HK.out | apply KeepBut.set_ | apply keep_drewN | apply keep_drew | apply keep_alloc) | exact HK.out)) hk (.inl rfl)); have n1_ := Aside0.mk (hb); have n2_ := Aside0.mk (hi); clear HK; clear HB; clear HI0; have HK := n0_; have HB := n1_; have HI0 := n2_; clear n0_ n1_ n2_; (try clear hb); (try clear hb2); (try clear hk); (try clear hi))))
                  go_meet
                  case rel => exact ⟨_, ((t123 == 10)), (t124), (t125), (t126), (t127), (by first | rfl | (simp; done) | (simp [*]; done)), H', ⟨by have := HK1.out; have := HJ7.out; have := HJ12.out; have := HJ17.out; first | omega | exact Nat.le_refl _⟩, ⟨by repeat (first | (with_reducible first | exact HI0.out | apply IsS48.alloc | apply IsS48.drewN | apply IsS48.drew | apply IsS48.set_0 | apply IsS48.set_1 | apply IsS48.set_2 | apply IsS48.set_4) | exact HI0.out)⟩, ⟨by repeat (first | (with_reducible first | exact HK.out | apply KeepBut.set_ | apply keep_drewN | apply keep_drew | apply keep_alloc) | exact HK.out)⟩, ⟨by repeat (first | (with_reducible first | exact HB.out | apply below_alloc | apply pw_below_drewN | apply below_drew1 | refine below_set ?_ (IsS48.ge HI0.out)) | exact HB.out)⟩⟩
                 ·rw [if_neg c27] at H
                  have c27b0 : (t118 == 13) = false := beq_eq_false_iff_ne.mpr c27
                  have c27b1 : (t118 != 13) = true := bne_iff_ne.mpr c27
                  have H' := Aside0.mk H
                  clear H
                  go_wp2_with (first | (go_at_call 63; (with_reducible refine (lsc_next.calls g x1000_17 x1001_17 x1002_17 s0_3 x1004_17 1 t118 t119 t120 t121 t122 w0 _ ?side1 ?side2 A26.out).mono ?_); (case side1 => repeat (first | (with_reducible first | exact HI0.out | apply IsS48.alloc | apply IsS48.drewN | apply IsS48.drew | apply IsS48.set_0 | apply IsS48.set_1 | apply IsS48.set_2 | apply IsS48.set_4) | exact HI0.out)); (case side2 => repeat (first | (with_reducible first | exact HB.out | apply below_alloc | apply pw_below_drewN | apply below_drew1 | refine below_set ?_ (IsS48.ge HI0.out)) | exact HB.out)); rintro e w31 ⟨rfl, hi, hb, hk⟩; have n0_ := Aside0.mk (KeepBut.trans (by repeat (first | (with_reducible first | exact HK.out | apply KeepBut.set_ | apply keep_drewN | apply keep_drew | apply keep_alloc) | exact HK.out)) hk (.inl rfl)); have n1_ := Aside0.mk (hb); have n2_ := Aside0.mk (hi); clear HK; clear HB; clear HI0; have HK := n0_; have HB := n1_; have HI0 := n2_; clear n0_ n1_ n2_; (try clear hb); (try clear hb2); (try clear hk); (try clear hi)))
                  repeat (go_quiet (first | (go_at_call 63; (with_reducible refine (lsc_next.calls g x1000_17 x1001_17 x1002_17 s0_3 x1004_17 1 t118 t119 t120 t121 t122 w0 _ ?side1 ?side2 A26.out).mono ?_); (case side1 => repeat (first | (with_reducible first | exact HI0.out | apply IsS48.alloc | apply IsS48.drewN | apply IsS48.drew | apply IsS48.set_0 | apply IsS48.set_1 | apply IsS48.set_2 | apply IsS48.set_4) | exact HI0.out)); (case side2 => repeat (first | (with_reducible first | exact HB.out | apply below_alloc | apply pw_below_drewN | apply below_drew1 | refine below_set ?_ (IsS48.ge HI0.out)) | exact HB.out)); rintro e w31 ⟨rfl, hi, hb, hk⟩; have n0_ := Aside0.mk (KeepBut.trans (by repeat (first | (with_reducible first | exact HK.out | apply KeepBut.set_ | apply keep_drewN | apply keep_drew | apply keep_alloc) | exact HK.out)) hk (.inl rfl)); have n1_ := Aside0.mk (hb); have n2_ := Aside0.mk (hi); clear HK; clear HB; clear HI0; have HK := n0_; have HB := n1_; have HI0 := n2_; clear n0_ n1_ n2_; (try clear hb); (try clear hb2); (try clear hk); (try clear hi))); try go_wp2_with (first | (go_at_call 63; (with_reducible refine (lsc_next.calls g x1000_17 x1001_17 x1002_17 s0_3 x1004_17 1 t118 t119 t120 t121 t122 w0 _ ?side1 ?side2 A26.out).mono ?_); (case side1 => repeat (first | (with_reducible first | exact HI0.out | apply IsS48.alloc | apply IsS48.drewN | apply IsS48.drew | apply IsS48.set_0 | apply IsS48.set_1 | apply IsS48.set_2 | apply IsS48.set_4) | exact HI0.out)); (case side2 => repeat (first | (with_reducible first | exact HB.out | apply below_alloc | apply pw_below_drewN | apply below_drew1 | refine below_set ?_ (IsS48.ge HI0.out)) | exact HB.out)); rintro e w31 ⟨rfl, hi, hb, hk⟩; have n0_ := Aside0.mk (KeepBut.trans (by repeat (first | (with_reducible first | exact HK.out | apply KeepBut.set_ | apply keep_drewN | apply keep_drew | apply keep_alloc) | exact HK.out)) hk (.inl rfl)); have n1_ := Aside0.mk (hb); have n2_ := Aside0.mk (hi); clear HK; clear HB; clear HI0; have HK := n0_; have HB := n1_; have HI0 := n2_; clear n0_ n1_ n2_; (try clear hb); (try clear hb2); (try clear hk); (try clear hi))))
                  go_meet
                  case rel => exact ⟨_, (false), (t119), (t120), (t121), (t122), (by first | rfl | (simp; done) | (simp [*]; done)), H', ⟨by have := HK1.out; have := HJ7.out; have := HJ12.out; have := HJ17.out; first | omega | exact Nat.le_refl _⟩, ⟨by repeat (first | (with_reducible first | exact HI0.out | apply IsS48.alloc | apply IsS48.drewN | apply IsS48.drew | apply IsS48.set_0 | apply IsS48.set_1 | apply IsS48.set_2 | apply IsS48.set_4) | exact HI0.out)⟩, ⟨by repeat (first | (with_reducible first | exact HK.out | apply KeepBut.set_ | apply keep_drewN | apply keep_drew | apply keep_alloc) | exact HK.out)⟩, ⟨by repeat (first | (with_reducible first | exact HB.out | apply below_alloc | apply pw_below_drewN | apply below_drew1 | refine below_set ?_ (IsS48.ge HI0.out)) | exact HB.out)⟩⟩
                ·rw [if_neg c25] at H
                 have c25b0 : ((bt x1000_1 x1001_1) == 92) = false := beq_eq_false_iff_ne.mpr c25
                 have c25b1 : ((bt x1000_1 x1001_1) != 92) = true := bne_iff_ne.mpr c25
                 (first | rw [c25b0] | (simp only [i64_w, i32_w]; rw [c25b0]) | skip)
                 have H' := Aside0.mk H
                 clear H
                 go_wp2
                 repeat (go_quiet (fail); try go_wp2)
                 go_meet
                 case rel => exact ⟨_, (false), (x1000_17), (x1001_17), (x1002_17), (x1004_17), (by first | rfl | (simp; done) | (simp [*]; done)), H', ⟨by have := HK1.out; have := HJ7.out; have := HJ12.out; have := HJ17.out; first | omega | exact Nat.le_refl _⟩, ⟨by repeat (first | (with_reducible first | exact HI0.out | apply IsS48.alloc | apply IsS48.drewN | apply IsS48.drew | apply IsS48.set_0 | apply IsS48.set_1 | apply IsS48.set_2 | apply IsS48.set_4) | exact HI0.out)⟩, ⟨by repeat (first | (with_reducible first | exact HK.out | apply KeepBut.set_ | apply keep_drewN | apply keep_drew | apply keep_alloc) | exact HK.out)⟩, ⟨by repeat (first | (with_reducible first | exact HB.out | apply below_alloc | apply pw_below_drewN | apply below_drew1 | refine below_set ?_ (IsS48.ge HI0.out)) | exact HB.out)⟩⟩
               case rest =>
                clear HC24
                try clear c1
                try clear c2
                try clear p2
                try clear c3
                try clear c3b0
                try clear c4
                try clear c4b0
                try clear p5
                try clear q5
                try clear hx5
                try clear c6
                try clear c6b0
                try clear c6b1
                try clear p6
                try clear c10
                try clear c10b0
                try clear c10b1
                try clear c11
                try clear c14
                try clear c14b0
                try clear c14b1
                try clear c15
                try clear c15b0
                try clear c15b1
                try clear c16
                try clear c19
                try clear c19b0
                try clear c19b1
                try clear c22
                try clear c25
                try clear c25b0
                try clear c25b1
                try clear c27
                try clear c27b0
                try clear c27b1
                try clear hcz12_0
                try clear hcz12_1
                try clear hcz12_2
                try clear hcz12_3
                try clear hcz12_4
                try clear hcz17_0
                try clear hcz17_1
                try clear hcz17_2
                try clear hcz17_3
                try clear hcz17_4
                try clear hcz23_0
                try clear hcz23_1
                try clear hcz23_2
                try clear hcz23_3
                try clear hcz23_4
                try clear hcz2_0
                try clear hcz2_1
                try clear hcz2_2
                try clear hcz2_3
                try clear hcz2_4
                try clear hcz7_0
                try clear hcz7_1
                try clear hcz7_2
                try clear hcz7_3
                try clear hcz7_4
                try clear hcz9_0
                try clear hcz9_1
                try clear hcz9_2
                try clear hcz9_3
                try clear hcz9_4
                try clear hfz12_0
                try clear hfz12_1
                try clear hfz12_2
                try clear hfz12_4
                try clear hfz17_0
                try clear hfz17_1
                try clear hfz17_2
                try clear hfz17_4
                try clear hfz23_0
                try clear hfz23_1
                try clear hfz23_2
                try clear hfz23_4
                try clear hfz2_0
                try clear hfz2_1
                try clear hfz2_2
                try clear hfz2_4
                try clear hfz7_0
                try clear hfz7_1
                try clear hfz7_2
                try clear hfz7_4
                try clear hfz9_0
                try clear hfz9_1
                try clear hfz9_2
                try clear hfz9_4
                try clear p2
                try clear p5
                try clear p6
                try clear q5
                obtain ⟨kq, x104_23, x1000_23, x1001_23, x1002_23, x1004_23, rfl, HA, HJ23, HI0, HK, HB⟩ := hcut
                cases kq with
                | zero => exact absurd HA.out (by simp [lsc_before.j4])
                | succ kj23 =>
                 have H := HA.out
                 clear HA
                 simp only [lsc_before.j4] at H
                 by_cases c32 : x104_23 = true
                 ·subst c32
                  have H1 : (lsc_before.l0 kj23 s0_1 x1000_23 (wrap64 (x1001_23 + 3)) x1002_23 s0_3 true) = some (r1, r2, r3, r4, r5) := by rw [if_pos rfl] at H; exact H
                  clear H
                  have H := H1
                  clear H1
                  have H' := Aside0.mk H
                  clear H
                  obtain ⟨ASz33_3, cSz33_3, HGz33, hgz33, HSz33_3⟩ := HI0.out
                  have hcz33_0 := cellS48_0 HGz33
                  have hcz33_1 := cellS48_1 HGz33
                  have hcz33_2 := cellS48_2 HGz33
                  have hcz33_3 := cellS48_3 HGz33
                  have hcz33_4 := cellS48_4 HGz33
                  have hfz33_0 := blk_frozen HGz33 0
                  have hfz33_1 := blk_frozen HGz33 1
                  have hfz33_2 := blk_frozen HGz33 2
                  have hfz33_4 := blk_frozen HGz33 4
                  clear HGz33 hgz33
                  go_wp2
                  repeat (go_quiet (fail); try go_wp2)
                  go_roundg kj23
                  case measure => have := HK1.out; have := HJ7.out; have := HJ12.out; have := HJ17.out; have := HJ23.out; omega
                  case rel => exact ⟨(x1000_23), (wrap64 (x1001_23 + 3)), (x1002_23), (true), H', ⟨by have := HK1.out; have := HJ7.out; have := HJ12.out; have := HJ17.out; have := HJ23.out; omega⟩, ⟨by repeat (first | (with_reducible first | exact HI0.out | apply IsS48.alloc | apply IsS48.drewN | apply IsS48.drew | apply IsS48.set_0 | apply IsS48.set_1 | apply IsS48.set_2 | apply IsS48.set_4) | exact HI0.out)⟩, ⟨by repeat (first | (with_reducible first | exact HK.out | apply KeepBut.set_ | apply keep_drewN | apply keep_drew | apply keep_alloc) | exact HK.out)⟩, ⟨by repeat (first | (with_reducible first | exact HB.out | apply below_alloc | apply pw_below_drewN | apply below_drew1 | refine below_set ?_ (IsS48.ge HI0.out)) | exact HB.out)⟩⟩
                 ·replace c32 := Bool.eq_false_iff.mpr c32
                  subst c32
                  have H1 : ((lsc_comment.f x1000_23 x1001_23 x1002_23 s0_3 x1004_23).bind fun bt128 => (if bt128.1 = true then (lsc_before.l0 kj23 s0_1 bt128.2.1 bt128.2.2.1 bt128.2.2.2.1 s0_3 bt128.2.2.2.2) else (if 0 ≤ s0_1 then (if s0_1 ≤ bt128.2.2.1 then (if bt128.2.2.1 ≤ (bt128.2.1.size : Int) then (some (bt128.2.1.extract (s0_1 : Int).toNat (bt128.2.2.1 : Int).toNat, bt128.2.1, bt128.2.2.1, bt128.2.2.2.1, bt128.2.2.2.2)) else (none)) else (none)) else (none)))) = some (r1, r2, r3, r4, r5) := by rw [if_neg (show ¬ (false = true) by decide)] at H; exact H
                  clear H
                  have H := H1
                  clear H1
                  replace H := Option.bind_eq_some_iff.mp H
                  obtain ⟨⟨t128, t129, t130, t131, t132⟩, A340, H⟩ := H
                  replace H : (if t128 = true then (lsc_before.l0 kj23 s0_1 t129 t130 t131 s0_3 t132) else (if 0 ≤ s0_1 then (if s0_1 ≤ t130 then (if t130 ≤ (t129.size : Int) then (some (t129.extract (s0_1 : Int).toNat (t130 : Int).toNat, t129, t130, t131, t132)) else (none)) else (none)) else (none))) = some (r1, r2, r3, r4, r5) := H
                  have A34 := Aside0.mk A340
                  clear A340
                  by_cases c35 : t128 = true
                  ·subst c35
                   have H1 : (lsc_before.l0 kj23 s0_1 t129 t130 t131 s0_3 t132) = some (r1, r2, r3, r4, r5) := by rw [if_pos rfl] at H; exact H
                   clear H
                   have H := H1
                   clear H1
                   have H' := Aside0.mk H
                   clear H
                   go_wp2_with (first | (go_at_call 64; (with_reducible refine (lsc_comment.calls g x1000_23 x1001_23 x1002_23 s0_3 x1004_23 true t129 t130 t131 t132 w0 _ ?side1 ?side2 ?side3 A34.out).mono ?_); (case side1 => repeat (first | (with_reducible first | exact HI0.out | apply IsS48.alloc | apply IsS48.drewN | apply IsS48.drew | apply IsS48.set_0 | apply IsS48.set_1 | apply IsS48.set_2 | apply IsS48.set_4) | exact HI0.out)); (case side2 => repeat (first | (with_reducible first | exact HB.out | apply below_alloc | apply pw_below_drewN | apply below_drew1 | refine below_set ?_ (IsS48.ge HI0.out)) | exact HB.out)); (case side3 => exact HGl.out); rintro e w36 ⟨rfl, hi, hb, hk⟩; have n0_ := Aside0.mk (KeepBut.trans (by repeat (first | (with_reducible first | exact HK.out | apply KeepBut.set_ | apply keep_drewN | apply keep_drew | apply keep_alloc) | exact HK.out)) hk (.inl rfl)); have n1_ := Aside0.mk (hb); have n2_ := Aside0.mk (hi); clear HK; clear HB; clear HI0; have HK := n0_; have HB := n1_; have HI0 := n2_; clear n0_ n1_ n2_; (try clear hb); (try clear hb2); (try clear hk); (try clear hi)))
                   repeat (go_quiet (first | (go_at_call 64; (with_reducible refine (lsc_comment.calls g x1000_23 x1001_23 x1002_23 s0_3 x1004_23 true t129 t130 t131 t132 w0 _ ?side1 ?side2 ?side3 A34.out).mono ?_); (case side1 => repeat (first | (with_reducible first | exact HI0.out | apply IsS48.alloc | apply IsS48.drewN | apply IsS48.drew | apply IsS48.set_0 | apply IsS48.set_1 | apply IsS48.set_2 | apply IsS48.set_4) | exact HI0.out)); (case side2 => repeat (first | (with_reducible first | exact HB.out | apply below_alloc | apply pw_below_drewN | apply below_drew1 | refine below_set ?_ (IsS48.ge HI0.out)) | exact HB.out)); (case side3 => exact HGl.out); rintro e w36 ⟨rfl, hi, hb, hk⟩; have n0_ := Aside0.mk (KeepBut.trans (by repeat (first | (with_reducible first | exact HK.out | apply KeepBut.set_ | apply keep_drewN | apply keep_drew | apply keep_alloc) | exact HK.out)) hk (.inl rfl)); have n1_ := Aside0.mk (hb); have n2_ := Aside0.mk (hi); clear HK; clear HB; clear HI0; have HK := n0_; have HB := n1_; have HI0 := n2_; clear n0_ n1_ n2_; (try clear hb); (try clear hb2); (try clear hk); (try clear hi))); try go_wp2_with (first | (go_at_call 64; (with_reducible refine (lsc_comment.calls g x1000_23 x1001_23 x1002_23 s0_3 x1004_23 true t129 t130 t131 t132 w0 _ ?side1 ?side2 ?side3 A34.out).mono ?_); (case side1 => repeat (first | (with_reducible first | exact HI0.out | apply IsS48.alloc | apply IsS48.drewN | apply IsS48.drew | apply IsS48.set_0 | apply IsS48.set_1 | apply IsS48.set_2 | apply IsS48.set_4) | exact HI0.out)); (case side2 => repeat (first | (with_reducible first | exact HB.out | apply below_alloc | apply pw_below_drewN | apply below_drew1 | refine below_set ?_ (IsS48.ge HI0.out)) | exact HB.out)); (case side3 => exact HGl.out); rintro e w36 ⟨rfl, hi, hb, hk⟩; have n0_ := Aside0.mk (KeepBut.trans (by repeat (first | (with_reducible first | exact HK.out | apply KeepBut.set_ | apply keep_drewN | apply keep_drew | apply keep_alloc) | exact HK.out)) hk (.inl rfl)); have n1_ := Aside0.mk (hb); have n2_ := Aside0.mk (hi); clear HK; clear HB; clear HI0; have HK := n0_; have HB := n1_; have HI0 := n2_; clear n0_ n1_ n2_; (try clear hb); (try clear hb2); (try clear hk); (try clear hi))))
                   go_roundg kj23
                   case measure => have := HK1.out; have := HJ7.out; have := HJ12.out; have := HJ17.out; have := HJ23.out; omega
                   case rel => exact ⟨(t129), (t130), (t131), (t132), H', ⟨by have := HK1.out; have := HJ7.out; have := HJ12.out; have := HJ17.out; have := HJ23.out; omega⟩, ⟨by repeat (first | (with_reducible first | exact HI0.out | apply IsS48.alloc | apply IsS48.drewN | apply IsS48.drew | apply IsS48.set_0 | apply IsS48.set_1 | apply IsS48.set_2 | apply IsS48.set_4) | exact HI0.out)⟩, ⟨by repeat (first | (with_reducible first | exact HK.out | apply KeepBut.set_ | apply keep_drewN | apply keep_drew | apply keep_alloc) | exact HK.out)⟩, ⟨by repeat (first | (with_reducible first | exact HB.out | apply below_alloc | apply pw_below_drewN | apply below_drew1 | refine below_set ?_ (IsS48.ge HI0.out)) | exact HB.out)⟩⟩
                  ·replace c35 := Bool.eq_false_iff.mpr c35
                   subst c35
                   have H1 : (if 0 ≤ s0_1 then (if s0_1 ≤ t130 then (if t130 ≤ (t129.size : Int) then (some (t129.extract (s0_1 : Int).toNat (t130 : Int).toNat, t129, t130, t131, t132)) else (none)) else (none)) else (none)) = some (r1, r2, r3, r4, r5) := by rw [if_neg (show ¬ (false = true) by decide)] at H; exact H
                   clear H
                   have H := H1
                   clear H1
                   by_cases c37 : 0 ≤ s0_1
                   ·rw [if_pos c37] at H
                    have c37b0 := eq_true c37
                    have c37b1 : decide (0 ≤ s0_1) = true := decide_eq_true c37
                    clear c37
                    by_cases c38 : s0_1 ≤ t130
                    ·rw [if_pos c38] at H
                     have c38b0 := eq_true c38
                     have c38b1 : decide (s0_1 ≤ t130) = true := decide_eq_true c38
                     clear c38
                     by_cases c39 : t130 ≤ (t129.size : Int)
                     ·rw [if_pos c39] at H
                      have c39b0 := eq_true c39
                      have c39b1 : decide (t130 ≤ (t129.size : Int)) = true := decide_eq_true c39
                      clear c39
                      simp only [Option.some.injEq, Prod.mk.injEq] at H
                      obtain ⟨rfl, rfl, rfl, rfl, rfl⟩ := H
                      go_wp2_with (first | (go_at_call 64; (with_reducible refine (lsc_comment.calls g x1000_23 x1001_23 x1002_23 s0_3 x1004_23 false t129 t130 t131 t132 w0 _ ?side1 ?side2 ?side3 A34.out).mono ?_); (case side1 => repeat (first | (with_reducible first | exact HI0.out | apply IsS48.alloc | apply IsS48.drewN | apply IsS48.drew | apply IsS48.set_0 | apply IsS48.set_1 | apply IsS48.set_2 | apply IsS48.set_4) | exact HI0.out)); (case side2 => repeat (first | (with_reducible first | exact HB.out | apply below_alloc | apply pw_below_drewN | apply below_drew1 | refine below_set ?_ (IsS48.ge HI0.out)) | exact HB.out)); (case side3 => exact HGl.out); rintro e w40 ⟨rfl, hi, hb, hk⟩; have n0_ := Aside0.mk (KeepBut.trans (by repeat (first | (with_reducible first | exact HK.out | apply KeepBut.set_ | apply keep_drewN | apply keep_drew | apply keep_alloc) | exact HK.out)) hk (.inl rfl)); have n1_ := Aside0.mk (hb); have n2_ := Aside0.mk (hi); clear HK; clear HB; clear HI0; have HK := n0_; have HB := n1_; have HI0 := n2_; clear n0_ n1_ n2_; (try clear hb); (try clear hb2); (try clear hk); (try clear hi); obtain ⟨ASz41_3, cSz41_3, HGz41, hgz41, HSz41_3⟩ := HI0.out; have hcz41_0 := cellS48_0 HGz41; have hcz41_1 := cellS48_1 HGz41; have hcz41_2 := cellS48_2 HGz41; have hcz41_3 := cellS48_3 HGz41; have hcz41_4 := cellS48_4 HGz41; have hfz41_0 := blk_frozen HGz41 0; have hfz41_1 := blk_frozen HGz41 1; have hfz41_2 := blk_frozen HGz41 2; have hfz41_4 := blk_frozen HGz41 4; clear HGz41 hgz41))
                      repeat (go_quiet (first | (go_at_call 64; (with_reducible refine (lsc_comment.calls g x1000_23 x1001_23 x1002_23 s0_3 x1004_23 false t129 t130 t131 t132 w0 _ ?side1 ?side2 ?side3 A34.out).mono ?_); (case side1 => repeat (first | (with_reducible first | exact HI0.out | apply IsS48.alloc | apply IsS48.drewN | apply IsS48.drew | apply IsS48.set_0 | apply IsS48.set_1 | apply IsS48.set_2 | apply IsS48.set_4) | exact HI0.out)); (case side2 => repeat (first | (with_reducible first | exact HB.out | apply below_alloc | apply pw_below_drewN | apply below_drew1 | refine below_set ?_ (IsS48.ge HI0.out)) | exact HB.out)); (case side3 => exact HGl.out); rintro e w40 ⟨rfl, hi, hb, hk⟩; have n0_ := Aside0.mk (KeepBut.trans (by repeat (first | (with_reducible first | exact HK.out | apply KeepBut.set_ | apply keep_drewN | apply keep_drew | apply keep_alloc) | exact HK.out)) hk (.inl rfl)); have n1_ := Aside0.mk (hb); have n2_ := Aside0.mk (hi); clear HK; clear HB; clear HI0; have HK := n0_; have HB := n1_; have HI0 := n2_; clear n0_ n1_ n2_; (try clear hb); (try clear hb2); (try clear hk); (try clear hi); obtain ⟨ASz41_3, cSz41_3, HGz41, hgz41, HSz41_3⟩ := HI0.out; have hcz41_0 := cellS48_0 HGz41; have hcz41_1 := cellS48_1 HGz41; have hcz41_2 := cellS48_2 HGz41; have hcz41_3 := cellS48_3 HGz41; have hcz41_4 := cellS48_4 HGz41; have hfz41_0 := blk_frozen HGz41 0; have hfz41_1 := blk_frozen HGz41 1; have hfz41_2 := blk_frozen HGz41 2; have hfz41_4 := blk_frozen HGz41 4; clear HGz41 hgz41)); try go_wp2_with (first | (go_at_call 64; (with_reducible refine (lsc_comment.calls g x1000_23 x1001_23 x1002_23 s0_3 x1004_23 false t129 t130 t131 t132 w0 _ ?side1 ?side2 ?side3 A34.out).mono ?_); (case side1 => repeat (first | (with_reducible first | exact HI0.out | apply IsS48.alloc | apply IsS48.drewN | apply IsS48.drew | apply IsS48.set_0 | apply IsS48.set_1 | apply IsS48.set_2 | apply IsS48.set_4) | exact HI0.out)); (case side2 => repeat (first | (with_reducible first | exact HB.out | apply below_alloc | apply pw_below_drewN | apply below_drew1 | refine below_set ?_ (IsS48.ge HI0.out)) | exact HB.out)); (case side3 => exact HGl.out); rintro e w40 ⟨rfl, hi, hb, hk⟩; have n0_ := Aside0.mk (KeepBut.trans (by repeat (first | (with_reducible first | exact HK.out | apply KeepBut.set_ | apply keep_drewN | apply keep_drew | apply keep_alloc) | exact HK.out)) hk (.inl rfl)); have n1_ := Aside0.mk (hb); have n2_ := Aside0.mk (hi); clear HK; clear HB; clear HI0; have HK := n0_; have HB := n1_; have HI0 := n2_; clear n0_ n1_ n2_; (try clear hb); (try clear hb2); (try clear hk); (try clear hi); obtain ⟨ASz41_3, cSz41_3, HGz41, hgz41, HSz41_3⟩ := HI0.out; have hcz41_0 := cellS48_0 HGz41; have hcz41_1 := cellS48_1 HGz41; have hcz41_2 := cellS48_2 HGz41; have hcz41_3 := cellS48_3 HGz41; have hcz41_4 := cellS48_4 HGz41; have hfz41_0 := blk_frozen HGz41 0; have hfz41_1 := blk_frozen HGz41 1; have hfz41_2 := blk_frozen HGz41 2; have hfz41_4 := blk_frozen HGz41 4; clear HGz41 hgz41)))
                      go_ret
                      exact ⟨by first | rfl | (simp [errW_none, errW_some] <;> rfl) | (simp [*, errW_none, errW_some] <;> rfl), by repeat (first | (with_reducible first | exact HI0.out | apply IsS48.alloc | apply IsS48.drewN | apply IsS48.drew | apply IsS48.set_0 | apply IsS48.set_1 | apply IsS48.set_2 | apply IsS48.set_4) | exact HI0.out), by repeat (first | (with_reducible first | exact HB.out | apply below_alloc | apply pw_below_drewN | apply below_drew1 | refine below_set ?_ (IsS48.ge HI0.out)) | exact HB.out), by repeat (first | (with_reducible first | exact HK.out | apply KeepBut.set_ | apply keep_drewN | apply keep_drew | apply keep_alloc) | exact HK.out)⟩
                     ·rw [if_neg c39] at H
                      exact absurd H (by simp)
                    ·rw [if_neg c38] at H
                     exact absurd H (by simp)
                   ·rw [if_neg c37] at H
                    exact absurd H (by simp)
    ·rw [if_neg c4] at H
     exact absurd H (by simp)
   ·rw [if_neg c3] at H
    have c3b0 : decide (x1001_1 < (x1000_1.size : Int)) = false := decide_eq_false c3
    clear c3
    by_cases c42 : 0 ≤ s0_1
    ·rw [if_pos c42] at H
     have c42b0 := eq_true c42
     have c42b1 : decide (0 ≤ s0_1) = true := decide_eq_true c42
     clear c42
     by_cases c43 : s0_1 ≤ (x1000_1.size : Int)
     ·rw [if_pos c43] at H
      have c43b0 := eq_true c43
      have c43b1 : decide (s0_1 ≤ (x1000_1.size : Int)) = true := decide_eq_true c43
      clear c43
      simp only [Option.some.injEq, Prod.mk.injEq] at H
      obtain ⟨rfl, rfl, rfl, rfl, rfl⟩ := H
      obtain ⟨ASz44_3, cSz44_3, HGz44, hgz44, HSz44_3⟩ := HI0.out
      have hcz44_0 := cellS48_0 HGz44
      have hcz44_1 := cellS48_1 HGz44
      have hcz44_2 := cellS48_2 HGz44
      have hcz44_3 := cellS48_3 HGz44
      have hcz44_4 := cellS48_4 HGz44
      have hfz44_0 := blk_frozen HGz44 0
      have hfz44_1 := blk_frozen HGz44 1
      have hfz44_2 := blk_frozen HGz44 2
      have hfz44_4 := blk_frozen HGz44 4
      clear HGz44 hgz44
      go_wp2
      repeat (go_quiet (fail); try go_wp2)
      go_ret
      exact ⟨by first | rfl | (simp [errW_none, errW_some] <;> rfl) | (simp [*, errW_none, errW_some] <;> rfl), by repeat (first | (with_reducible first | exact HI0.out | apply IsS48.alloc | apply IsS48.drewN | apply IsS48.drew | apply IsS48.set_0 | apply IsS48.set_1 | apply IsS48.set_2 | apply IsS48.set_4) | exact HI0.out), by repeat (first | (with_reducible first | exact HB.out | apply below_alloc | apply pw_below_drewN | apply below_drew1 | refine below_set ?_ (IsS48.ge HI0.out)) | exact HB.out), by repeat (first | (with_reducible first | exact HK.out | apply KeepBut.set_ | apply keep_drewN | apply keep_drew | apply keep_alloc) | exact HK.out)⟩
     ·rw [if_neg c43] at H
      exact absurd H (by simp)
    ·rw [if_neg c42] at H
     exact absurd H (by simp)

end Go.Proofs.YtabnmkakgcifoaaDoor.PLex

namespace Go.Proofs.YtabnmkakgcifoaaDoor.PLex
open Go.RowKit Go.Proofs.YtabnmkakgcifoaaDoorW.PrintWords Go.Proofs.YtabnmkakgcifoaaDoorW.PrintLast Go.Proofs.YtabnmkakgcifoaaDoorW.PrintMore
abbrev bl (s : ByteArray) : List UInt8 := s.data.toList
theorem bl_length (s : ByteArray) : (bl s).length = s.size := (Lib.size_eq s).symm
theorem w64 {x : Int} (h0 : -9223372036854775808 ≤ x) (h1 : x ≤ 9223372036854775807) : wrap64 x = x := by unfold wrap64; omega
theorem bt_nat (s : ByteArray) (a : Nat) (h : a < (bl s).length) : bt s (a : Int) = (((bl s)[a]'h).toNat : Int) := by
  have h' : a < s.size := by rw [← bl_length]; exact h
  unfold bt
  simp only [Int.toNat_natCast, h', dif_pos]
  rfl
theorem drop_cons {s : ByteArray} {a : Nat} {c : UInt8} {r : List UInt8} (h : (bl s).drop a = c :: r) :
    a < s.size ∧ bt s (a : Int) = (c.toNat : Int) ∧ (bl s).drop (a + 1) = r ∧ a + r.length + 1 = s.size := by
  have hl : a < (bl s).length := by
    rcases Nat.lt_or_ge a (bl s).length with h1 | h1
    · exact h1
    · rw [List.drop_of_length_le h1] at h; cases h
  have h2 := List.drop_eq_getElem_cons hl
  rw [h] at h2
  injection h2 with h3 h4
  have h5 := congrArg List.length h
  simp only [List.length_drop, List.length_cons] at h5
  rw [bl_length] at h5 hl
  exact ⟨hl, by rw [bt_nat s a (by rw [bl_length]; exact hl), ← h3], h4.symm, by omega⟩
theorem drop_nil {s : ByteArray} {a : Nat} (h : (bl s).drop a = []) : s.size ≤ a := by
  rw [List.drop_eq_nil_iff, bl_length] at h; exact h
theorem drop_drop' (s : ByteArray) (a n : Nat) : (bl s).drop (a + n) = ((bl s).drop a).drop n := by rw [List.drop_drop]
theorem extract_bl (s : ByteArray) (a b : Nat) : bl (s.extract a b) = ((bl s).drop a).take (b - a) := by
  simp [bl]
/-- the byte so many places on, 0 behind the end -/
def nx (l : List UInt8) (n : Nat) : UInt8 := (l.drop n).headD 0
theorem next_eq (s : ByteArray) (a n : Nat) (km : Option Nat) (sg : List ByteArray) (f : Bool) (h : a ≤ s.size) (hs : s.size ≤ 200000) (hn : n ≤ 400000) :
    lsc_next.f s a km sg f n = some (((nx ((bl s).drop a) n).toNat : Int), s, (a : Int), km, f) := by
  unfold lsc_next.f
  rw [w64 (by omega) (by omega)]
  rw [show ((a : Int) + (n : Int)) = ((a + n : Nat) : Int) by omega]
  unfold nx
  rw [← drop_drop']
  cases hd : (bl s).drop (a + n) with
  | nil =>
    have := drop_nil hd
    rw [if_pos (by omega)]
    rfl
  | cons c r =>
    obtain ⟨h1, h2, _, _⟩ := drop_cons hd
    rw [if_neg (by omega), if_pos (by omega), if_pos (by omega), h2]
    rfl
theorem rest_eq (s : ByteArray) (a : Nat) (km : Option Nat) (sg : List ByteArray) (f : Bool) (h : a ≤ s.size) :
    lsc_rest.f s a km sg f = some (s.extract a s.size, s, (a : Int), km, f) := by
  unfold lsc_rest.f
  rw [if_pos (by omega), if_pos (by omega)]
  simp
theorem rest_bl (s : ByteArray) (a : Nat) (_h : a ≤ s.size) : bl (s.extract a s.size) = (bl s).drop a := by
  rw [extract_bl, List.take_of_length_le]
  simp only [List.length_drop, bl_length]; omega
end Go.Proofs.YtabnmkakgcifoaaDoor.PLex

namespace Go.Proofs.YtabnmkakgcifoaaDoor.PLex
open Go.RowKit Go.Proofs.YtabnmkakgcifoaaDoorW.PrintWords Go.Proofs.YtabnmkakgcifoaaDoorW.PrintLast Go.Proofs.YtabnmkakgcifoaaDoorW.PrintMore
theorem toList_bl (s : ByteArray) : s.toList = bl s := by
  have h := Lib.extract_toList s 0 s.size
  have e : s.extract 0 s.size = s := by simp
  rw [e] at h
  rw [h, Nat.sub_zero, List.drop_zero, List.take_of_length_le (by show (bl s).length ≤ _; rw [bl_length]; exact Nat.le_refl _)]
theorem hasPrefix_eq (x p : ByteArray) : strings_HasPrefix.f x p = some ((bl p).isPrefixOf (bl x)) := by
  unfold strings_HasPrefix.f stringslite_HasPrefix.f
  have hp := bl_length p
  have hx := bl_length x
  by_cases h : (x.size : Int) ≥ (p.size : Int)
  · rw [if_pos h, if_pos (by omega), if_pos (by omega)]
    simp only [Option.bind_some, Option.some.injEq]
    rw [toList_bl, toList_bl, extract_bl]
    simp only [List.drop_zero, Nat.sub_zero, Int.toNat_natCast]
    rw [Bool.eq_iff_iff, beq_iff_eq, List.isPrefixOf_iff_prefix, List.prefix_iff_eq_take, hp]
    exact ⟨fun h => h.symm, fun h => h.symm⟩
  · rw [if_neg h]
    simp only [Option.bind_some, Option.some.injEq]
    symm
    rw [← Bool.not_eq_true, List.isPrefixOf_iff_prefix]
    intro hh
    have := hh.length_le
    omega
theorem indexByte_10 (l : List UInt8) : (Lib.indexByte l 10 < 0 ∧ Lx.upto10 l = l.length) ∨ (Lib.indexByte l 10 = Lx.upto10 l ∧ Lx.upto10 l < l.length) := by
  induction l with
  | nil => left; simp [Lib.indexByte, Lx.upto10]
  | cons c r ih =>
    simp only [Lib.indexByte, Lx.upto10, List.length_cons]
    by_cases hc : c = 10
    · right; simp [hc]
    · rw [if_neg (by simpa using hc), if_neg hc]
      rcases ih with ⟨h1, h2⟩ | ⟨h1, h2⟩
      · have := Lib.indexByte_ge r 10
        left; rw [if_pos (by simp; omega)]; omega
      · right; rw [if_neg (by simp; omega)]; omega
theorem index_block (l : List UInt8) : (Lib.index l [42, 47] < 0 ∧ Lx.block l = l.length) ∨ (Lib.index l [42, 47] + 2 = Lx.block l ∧ 0 ≤ Lib.index l [42, 47] ∧ Lx.block l ≤ l.length) := by
  induction l with
  | nil => left; simp [Lib.index, Lx.block]
  | cons c r ih =>
    simp only [Lib.index, Lx.block, List.length_cons]
    by_cases hc : c = 42 ∧ r.head? = some 47
    · obtain ⟨rfl, hr⟩ := hc
      obtain ⟨d, r', rfl⟩ : ∃ d r', r = d :: r' := by cases r with
        | nil => simp at hr
        | cons d r' => exact ⟨d, r', rfl⟩
      simp at hr; subst hr
      right; simp
    · rw [if_neg hc]
      have hp : List.isPrefixOf [42, 47] (c :: r) = false := by
        cases r with
        | nil => simp [List.isPrefixOf]
        | cons d r' =>
          simp [List.isPrefixOf]
          intro h1 h2
          exact hc ⟨h1.symm, by simp [← h2]⟩
      rw [hp, if_neg (by simp)]
      rcases ih with ⟨h1, h2⟩ | ⟨h1, h2, h3⟩
      · have := Lib.index_ge r [42, 47]
        left; rw [if_pos (by simp; omega)]; omega
      · right; rw [if_neg (by simp; omega)]; omega
theorem index_10 (l : List UInt8) : 0 ≤ Lib.index l [10] ↔ 10 ∈ l := by
  induction l with
  | nil => simp [Lib.index]
  | cons c r ih =>
    simp only [Lib.index, List.mem_cons]
    by_cases hc : c = 10
    · simp [hc, List.isPrefixOf]
    · have hp : List.isPrefixOf [10] (c :: r) = false := by simp [List.isPrefixOf]; exact fun h => hc h.symm
      rw [hp, if_neg (by simp)]
      have hge := Lib.index_ge r [10]
      rw [← ih]
      by_cases hm : Lib.index r [10] = -1
      · rw [hm]
        simp
        exact fun h => hc h.symm
      · rw [if_neg (by simpa using hm)]
        constructor
        · intro _; right; omega
        · intro _; omega
theorem contains_10 (l : List UInt8) : Lib.contains l [10] = l.contains 10 := by
  rw [Bool.eq_iff_iff]; unfold Lib.contains
  simp [index_10]
theorem block_le (l : List UInt8) : Lx.block l ≤ l.length := by rcases index_block l with h | h <;> omega
theorem upto10_le (l : List UInt8) : Lx.upto10 l ≤ l.length := by rcases indexByte_10 l with h | h <;> omega
theorem cmt_le (l : List UInt8) : Lx.cmt l ≤ l.length := by
  cases l with
  | nil => simp [Lx.cmt]
  | cons c r =>
    simp only [Lx.cmt, List.length_cons]
    split
    · split
      · have := upto10_le r; omega
      · split
        · cases r with
          | nil => simp at *
          | cons d r' => have := block_le r'; simp; omega
        · omega
    · omega
theorem comment_eq (s : ByteArray) (a : Nat) (km : Option Nat) (sg : List ByteArray) (f : Bool) (h : a ≤ s.size) (hs : s.size ≤ 200000) :
    lsc_comment.f s a km sg f = some (decide (0 < Lx.cmt ((bl s).drop a)), s, ((a + Lx.cmt ((bl s).drop a) : Nat) : Int), km,
      if ((bl s).drop a).take 2 = [47, 42] then f || (((bl s).drop a).take (Lx.cmt ((bl s).drop a))).contains 10 else f) := by
  unfold lsc_comment.f
  rw [rest_eq s a km sg f h]
  simp only [Option.bind_some, hasPrefix_eq]
  have hb := rest_bl s a h
  have hsz : (s.extract a s.size).size = s.size - a := by rw [← bl_length, hb, List.length_drop, bl_length]
  generalize hx : s.extract a s.size = x at *
  generalize hl : (bl s).drop a = l at *
  have hll : l.length = s.size - a := by rw [← hl, List.length_drop, bl_length]
  rw [hb]
  have e1 : bl (⟨#[47, 47]⟩ : ByteArray) = [47, 47] := rfl
  have e2 : bl (⟨#[47, 42]⟩ : ByteArray) = [47, 42] := rfl
  have e3 : bl (⟨#[42, 47]⟩ : ByteArray) = [42, 47] := rfl
  have e4 : bl (⟨#[10]⟩ : ByteArray) = [10] := rfl
  rw [e1, e2]
  by_cases h1 : List.isPrefixOf [47, 47] l = true
  · rw [if_pos h1]
    obtain ⟨r, rfl⟩ : ∃ r, l = 47 :: 47 :: r := by
      rw [List.isPrefixOf_iff_prefix] at h1
      obtain ⟨r, rfl⟩ := h1
      exact ⟨r, rfl⟩
    have hc : Lx.cmt (47 :: 47 :: r) = Lx.upto10 (47 :: 47 :: r) := by simp [Lx.cmt, Lx.upto10]
    have hpos : 0 < Lx.upto10 (47 :: 47 :: r) := by simp [Lx.upto10]
    rw [hc]
    unfold strings_IndexByte.f
    simp only [Option.bind_some]
    rw [show x.data.toList = (47 :: 47 :: r : List UInt8) from hb, show (Int.toNat 10).toUInt8 = (10 : UInt8) from rfl]
    have hlen : (47 :: 47 :: r : List UInt8).length = x.size := by rw [hll, hsz]
    rcases indexByte_10 (47 :: 47 :: r) with ⟨i1, i2⟩ | ⟨i1, i2⟩
    · rw [if_pos i1, w64 (by omega) (by omega)]
      simp [hpos]
      omega
    · rw [if_neg (by omega), w64 (by omega) (by omega)]
      simp [hpos]
      omega
  · rw [if_neg h1]
    by_cases h2 : List.isPrefixOf [47, 42] l = true
    · rw [if_pos h2]
      obtain ⟨r, rfl⟩ : ∃ r, l = 47 :: 42 :: r := by
        rw [List.isPrefixOf_iff_prefix] at h2
        obtain ⟨r, rfl⟩ := h2
        exact ⟨r, rfl⟩
      have hlen : (47 :: 42 :: r : List UInt8).length = x.size := by rw [hll, hsz]
      have hc : Lx.cmt (47 :: 42 :: r) = Lx.block r + 2 := by simp [Lx.cmt]
      have hble := block_le r
      simp only [List.length_cons] at hlen
      rw [if_pos (by omega), hc]
      have hb2 : (x.extract 2 x.size).data.toList = r := by
        have := extract_bl x 2 x.size
        rw [hb] at this
        rw [show (x.extract 2 x.size).data.toList = bl (x.extract 2 x.size) from rfl, this]
        simp only [List.drop_succ_cons, List.drop_zero]
        rw [List.take_of_length_le (by omega)]
      have hsz2 : (x.extract 2 x.size).size = r.length := by rw [← bl_length]; show (x.extract 2 x.size).data.toList.length = _; rw [hb2]
      unfold strings_Index.f
      rw [if_pos (by omega), hb2, show (⟨#[42, 47]⟩ : ByteArray).data.toList = [42, 47] from rfl]
      simp only [Option.bind_some]
      have hct : ∀ n : Nat, n ≤ x.size → strings_Contains.f (x.extract 0 n) (⟨#[10]⟩ : ByteArray) = some (((47 :: 42 :: r : List UInt8).take n).contains 10) := by
        intro n hn
        unfold strings_Contains.f
        have hz : (x.extract 0 n).size ≤ x.size := by rw [← bl_length, extract_bl, List.length_take, List.length_drop, bl_length]; omega
        rw [if_pos (by omega)]
        have hb3 : (x.extract 0 n).data.toList = (47 :: 42 :: r : List UInt8).take n := by
          show bl (x.extract 0 n) = _
          rw [extract_bl, hb]
          simp
        rw [hb3, show (⟨#[10]⟩ : ByteArray).data.toList = [10] from rfl, contains_10]
      have ht : (List.take 2 (47 :: 42 :: r) : List UInt8) = [47, 42] := rfl
      rw [if_pos ht]
      rcases index_block r with ⟨i1, i2⟩ | ⟨i1, i2, i3⟩
      · rw [w64 (x := Lib.index r [42, 47] + 4) (by have := Lib.index_ge r [42, 47]; omega) (by omega), if_pos (by omega)]
        have hn : Lx.block r + 2 = x.size := by omega
        have hp : 0 < x.size := by omega
        rw [hn, w64 (by omega) (by omega)]
        cases f
        · rw [if_neg (by simp), if_pos (by omega), if_pos (by omega), Int.toNat_natCast, hct _ (by omega)]
          simp [hp]
        · rw [if_pos rfl]
          simp [hp]
      · rw [w64 (x := Lib.index r [42, 47] + 4) (by omega) (by omega), if_neg (by omega)]
        have hq : Lib.index r [42, 47] + 4 = ((Lx.block r + 2 : Nat) : Int) := by omega
        rw [hq, w64 (by omega) (by omega)]
        cases f
        · rw [if_neg (by simp), if_pos (by omega), if_pos (by omega), Int.toNat_natCast, hct _ (by omega)]
          simp
        · rw [if_pos rfl]
          simp
    · rw [if_neg h2]
      have h0 : Lx.cmt l = 0 := by
        cases l with
        | nil => rfl
        | cons c r =>
          simp only [Lx.cmt]
          by_cases hc : c = 47
          · subst hc
            rw [if_pos rfl, if_neg ?_, if_neg ?_]
            · intro hr
              cases r with
              | nil => simp at hr
              | cons d r' => simp at hr; subst hr; exact h2 (by simp [List.isPrefixOf])
            · intro hr
              cases r with
              | nil => simp at hr
              | cons d r' => simp at hr; subst hr; exact h1 (by simp [List.isPrefixOf])
          · rw [if_neg hc]
      have ht : ¬ (List.take 2 l = [47, 42]) := by
        intro ht
        apply h2
        rw [List.isPrefixOf_iff_prefix, ← ht]
        exact List.take_prefix _ _
      simp [h0, ht]
end Go.Proofs.YtabnmkakgcifoaaDoor.PLex

namespace Go.Proofs.YtabnmkakgcifoaaDoor.PLex
open Go.RowKit Go.Proofs.YtabnmkakgcifoaaDoorW.PrintWords Go.Proofs.YtabnmkakgcifoaaDoorW.PrintLast Go.Proofs.YtabnmkakgcifoaaDoorW.PrintMore
theorem ci9 (c : UInt8) : ((c.toNat : Int) = 9) ↔ c = 9 := by rw [← UInt8.toNat_inj]; show _ ↔ c.toNat = 9; omega
theorem ci10 (c : UInt8) : ((c.toNat : Int) = 10) ↔ c = 10 := by rw [← UInt8.toNat_inj]; show _ ↔ c.toNat = 10; omega
theorem ci11 (c : UInt8) : ((c.toNat : Int) = 11) ↔ c = 11 := by rw [← UInt8.toNat_inj]; show _ ↔ c.toNat = 11; omega
theorem ci12 (c : UInt8) : ((c.toNat : Int) = 12) ↔ c = 12 := by rw [← UInt8.toNat_inj]; show _ ↔ c.toNat = 12; omega
theorem ci13 (c : UInt8) : ((c.toNat : Int) = 13) ↔ c = 13 := by rw [← UInt8.toNat_inj]; show _ ↔ c.toNat = 13; omega
theorem ci32 (c : UInt8) : ((c.toNat : Int) = 32) ↔ c = 32 := by rw [← UInt8.toNat_inj]; show _ ↔ c.toNat = 32; omega
theorem ci34 (c : UInt8) : ((c.toNat : Int) = 34) ↔ c = 34 := by rw [← UInt8.toNat_inj]; show _ ↔ c.toNat = 34; omega
theorem ci35 (c : UInt8) : ((c.toNat : Int) = 35) ↔ c = 35 := by rw [← UInt8.toNat_inj]; show _ ↔ c.toNat = 35; omega
theorem ci37 (c : UInt8) : ((c.toNat : Int) = 37) ↔ c = 37 := by rw [← UInt8.toNat_inj]; show _ ↔ c.toNat = 37; omega
theorem ci39 (c : UInt8) : ((c.toNat : Int) = 39) ↔ c = 39 := by rw [← UInt8.toNat_inj]; show _ ↔ c.toNat = 39; omega
theorem ci43 (c : UInt8) : ((c.toNat : Int) = 43) ↔ c = 43 := by rw [← UInt8.toNat_inj]; show _ ↔ c.toNat = 43; omega
theorem ci45 (c : UInt8) : ((c.toNat : Int) = 45) ↔ c = 45 := by rw [← UInt8.toNat_inj]; show _ ↔ c.toNat = 45; omega
theorem ci46 (c : UInt8) : ((c.toNat : Int) = 46) ↔ c = 46 := by rw [← UInt8.toNat_inj]; show _ ↔ c.toNat = 46; omega
theorem ci47 (c : UInt8) : ((c.toNat : Int) = 47) ↔ c = 47 := by rw [← UInt8.toNat_inj]; show _ ↔ c.toNat = 47; omega
theorem ci69 (c : UInt8) : ((c.toNat : Int) = 69) ↔ c = 69 := by rw [← UInt8.toNat_inj]; show _ ↔ c.toNat = 69; omega
theorem ci92 (c : UInt8) : ((c.toNat : Int) = 92) ↔ c = 92 := by rw [← UInt8.toNat_inj]; show _ ↔ c.toNat = 92; omega
theorem ci95 (c : UInt8) : ((c.toNat : Int) = 95) ↔ c = 95 := by rw [← UInt8.toNat_inj]; show _ ↔ c.toNat = 95; omega
theorem ci101 (c : UInt8) : ((c.toNat : Int) = 101) ↔ c = 101 := by rw [← UInt8.toNat_inj]; show _ ↔ c.toNat = 101; omega
theorem bi9 (c : UInt8) : ((c.toNat : Int) == 9) = (c == 9) := by rw [Bool.eq_iff_iff, beq_iff_eq, beq_iff_eq]; exact ci9 c
theorem bi10 (c : UInt8) : ((c.toNat : Int) == 10) = (c == 10) := by rw [Bool.eq_iff_iff, beq_iff_eq, beq_iff_eq]; exact ci10 c
theorem bi13 (c : UInt8) : ((c.toNat : Int) == 13) = (c == 13) := by rw [Bool.eq_iff_iff, beq_iff_eq, beq_iff_eq]; exact ci13 c
theorem bi34 (c : UInt8) : ((c.toNat : Int) == 34) = (c == 34) := by rw [Bool.eq_iff_iff, beq_iff_eq, beq_iff_eq]; exact ci34 c
theorem piece_cons (c : UInt8) (r : List UInt8) : Lx.piece (c :: r) = if Lx.isBl c then 1 else if c = 92 then (if r.head? = some 10 then 2 else if r.take 2 = [13, 10] then 3 else 0) else Lx.cmt (c :: r) := by
  simp only [Lx.piece]
theorem piece_le (l : List UInt8) : Lx.piece l ≤ l.length := by
  cases l with
  | nil => simp [Lx.piece]
  | cons c r =>
    rw [piece_cons]
    split
    · simp
    · split
      · split
        · cases r with
          | nil => simp at *
          | cons d r => simp
        · split
          · cases r with
            | nil => simp at *
            | cons d r => cases r with
              | nil => simp at *
              | cons d r => simp
          · simp
      · exact cmt_le _
theorem pre_fuel : ∀ (n k : Nat) (l : List UInt8) (f : Bool), l.length ≤ n → n ≤ k → Lx.pre k l f = Lx.pre n l f := by
  intro n
  induction n with
  | zero =>
    intro k l f h _
    obtain rfl : l = [] := List.eq_nil_of_length_eq_zero (by omega)
    cases k <;> simp [Lx.pre, Lx.piece]
  | succ n ih =>
    intro k l f h hk
    obtain ⟨k, rfl⟩ : ∃ m, k = m + 1 := ⟨k - 1, by omega⟩
    simp only [Lx.pre]
    by_cases hp : Lx.piece l = 0
    · rw [if_pos hp, if_pos hp]
    · rw [if_neg hp, if_neg hp]
      rw [ih k _ _ (by rw [List.length_drop]; omega) (by omega)]
theorem pre_stop (l : List UInt8) (f : Bool) (h : Lx.piece l = 0) : Lx.pre l.length l f = (0, f) := by
  cases hl : l.length with
  | zero => simp [Lx.pre]
  | succ n => simp [Lx.pre, h]
theorem pre_step (l : List UInt8) (f : Bool) (n : Nat) (h : Lx.piece l = n) (hn : 0 < n) :
    Lx.pre l.length l f = (n + (Lx.pre (l.drop n).length (l.drop n) (Lx.clearAfter l n f)).1, (Lx.pre (l.drop n).length (l.drop n) (Lx.clearAfter l n f)).2) := by
  have hle := piece_le l
  obtain ⟨m, hm⟩ : ∃ m, l.length = m + 1 := ⟨l.length - 1, by omega⟩
  rw [hm]
  simp only [Lx.pre]
  rw [if_neg (by omega), h]
  rw [pre_fuel (l.drop n).length m _ _ (Nat.le_refl _) (by rw [List.length_drop]; omega)]
theorem upto10_no (l : List UInt8) : (l.take (Lx.upto10 l)).contains 10 = false := by
  induction l with
  | nil => rfl
  | cons c r ih =>
    simp only [Lx.upto10]
    split
    · rfl
    · rename_i h
      simp only [List.take_succ_cons, List.contains_cons, ih, Bool.or_false]
      simp; exact fun e => h e.symm

theorem bf {c d : UInt8} (h : ¬ c = d) : (c == d) = false := beq_eq_false_iff_ne.mpr h
section
variable {s : ByteArray} {a : Nat} {x3 : Int} {km : Option Nat} {sg : List ByteArray} {f : Bool} {c : UInt8} {r : List UInt8} {R : ByteArray × ByteArray × Int × Option Nat × Bool}
theorem ca1 (c : UInt8) (r : List UInt8) (f : Bool) : Lx.clearAfter (c :: r) 1 f = if Lx.isFF c then false else f || c == 10 := by
  unfold Lx.clearAfter
  simp only [List.headD_cons, true_and, List.take_succ_cons, List.take_zero, List.contains_cons, List.contains_nil, Bool.or_false]
  by_cases h : Lx.isFF c = true
  · simp [h]
  · rw [if_neg h, if_neg h, show ((10 : UInt8) == c) = (c == 10) from Bool.eq_iff_iff.mpr ⟨fun h => beq_iff_eq.mpr (beq_iff_eq.mp h).symm, fun h => beq_iff_eq.mpr (beq_iff_eq.mp h).symm⟩]
/-- from a byte that is no line feed, blank or tab, to the joint 2 -/
theorem to_j1 (h : (bl s).drop a = c :: r) (_hs : s.size ≤ 200000) (n10 : c ≠ 10) (n32 : c ≠ 32) (n9 : c ≠ 9)
    (hr : Ev (fun k => lsc_before.j1 k x3 (c.toNat : Int) false s (a : Int) km sg f) R) : Ev (fun k => lsc_before.l0 k x3 s (a : Int) km sg f) R := by
  obtain ⟨h1, h2, h3, h4⟩ := drop_cons h
  refine Ev.step (fun k => ?_) hr
  simp only [lsc_before.l0]
  rw [if_pos (by omega), if_pos (by omega), h2, if_neg (by rw [ci10]; exact n10), if_neg (by rw [ci32]; exact n32), bi9]
  rw [show (c == 9) = false by simpa using n9]
theorem to_j2 {b : Bool} (hb : b = (c == 11 || c == 12 || c == 13))
    (hr : Ev (fun k => lsc_before.j2 k x3 (c.toNat : Int) b s (a : Int) km sg f) R) : Ev (fun k => lsc_before.j1 k x3 (c.toNat : Int) false s (a : Int) km sg f) R := by
  refine Ev.step (fun k => ?_) hr
  simp only [lsc_before.j1]
  rw [if_neg (by simp)]
  by_cases e11 : c = 11
  · rw [if_pos ((ci11 c).mpr e11)]; simp [hb, e11]
  · rw [if_neg (by rw [ci11]; exact e11)]
    by_cases e12 : c = 12
    · rw [if_pos ((ci12 c).mpr e12)]; simp [hb, e12]
    · rw [if_neg (by rw [ci12]; exact e12), bi13]; simp [hb, bf e11, bf e12]
theorem to_j3 {b : Bool} (h : a ≤ s.size) (hs : s.size ≤ 200000) (hb : b = (c == 92 && nx ((bl s).drop a) 1 == 10))
    (hr : Ev (fun k => lsc_before.j3 k x3 (c.toNat : Int) b s (a : Int) km sg f) R) : Ev (fun k => lsc_before.j2 k x3 (c.toNat : Int) false s (a : Int) km sg f) R := by
  refine Ev.step (fun k => ?_) hr
  simp only [lsc_before.j2]
  rw [if_neg (by simp)]
  by_cases e : c = 92
  · rw [if_pos ((ci92 c).mpr e), show (1 : Int) = ((1 : Nat) : Int) from rfl, next_eq s a 1 km sg f h hs (by omega)]
    simp only [Option.bind_some]
    rw [bi10]; simp [hb, e]
  · rw [if_neg (by rw [ci92]; exact e)]; simp [hb, bf e]
theorem to_j4 {b : Bool} (h : a ≤ s.size) (hs : s.size ≤ 200000) (hb : b = (c == 92 && nx ((bl s).drop a) 1 == 13 && nx ((bl s).drop a) 2 == 10))
    (hr : Ev (fun k => lsc_before.j4 k x3 b s (a : Int) km sg f) R) : Ev (fun k => lsc_before.j3 k x3 (c.toNat : Int) false s (a : Int) km sg f) R := by
  refine Ev.step (fun k => ?_) hr
  simp only [lsc_before.j3]
  rw [if_neg (by simp)]
  by_cases e : c = 92
  · rw [if_pos ((ci92 c).mpr e), show (1 : Int) = ((1 : Nat) : Int) from rfl, next_eq s a 1 km sg f h hs (by omega)]
    simp only [Option.bind_some]
    by_cases e2 : nx ((bl s).drop a) 1 = 13
    · rw [if_pos ((ci13 _).mpr e2), show (2 : Int) = ((2 : Nat) : Int) from rfl, next_eq s a 2 km sg f h hs (by omega)]
      simp only [Option.bind_some]
      rw [bi10]; simp [hb, e, e2]
    · rw [if_neg (by rw [ci13]; exact e2)]; simp [hb, e, bf e2]
  · rw [if_neg (by rw [ci92]; exact e)]; simp [hb, bf e]
end
theorem nx1 (c : UInt8) (r : List UInt8) : nx (c :: r) 1 = r.headD 0 := rfl
theorem nx2 (c : UInt8) (r : List UInt8) : nx (c :: r) 2 = (r.drop 1).headD 0 := by unfold nx; rw [List.drop_succ_cons]
theorem before_ev (s : ByteArray) (hs : s.size ≤ 200000) (x3 : Nat) (km : Option Nat) (sg : List ByteArray) : ∀ (n a : Nat) (f : Bool), ((bl s).drop a).length ≤ n → a ≤ s.size → x3 ≤ a →
    Ev (fun k => lsc_before.l0 k (x3 : Int) s (a : Int) km sg f)
      (s.extract x3 (a + (Lx.pre ((bl s).drop a).length ((bl s).drop a) f).1), s, ((a + (Lx.pre ((bl s).drop a).length ((bl s).drop a) f).1 : Nat) : Int), km, (Lx.pre ((bl s).drop a).length ((bl s).drop a) f).2) := by
  intro n
  induction n with
  | zero =>
    intro a f hl ha hx
    have h0 : (bl s).drop a = [] := List.eq_nil_of_length_eq_zero (by omega)
    have := drop_nil h0
    rw [h0]
    refine Ev.step (fun k => ?_) (Ev.now _)
    simp only [lsc_before.l0]
    rw [if_neg (by omega), if_pos (by omega), if_pos (by omega)]
    obtain rfl : a = s.size := by omega
    simp [Lx.pre]
  | succ n ih =>
    intro a f hl ha hx
    cases hd : (bl s).drop a with
    | nil =>
      have := drop_nil hd
      refine Ev.step (fun k => ?_) (Ev.now _)
      simp only [lsc_before.l0]
      rw [if_neg (by omega), if_pos (by omega), if_pos (by omega)]
      obtain rfl : a = s.size := by omega
      simp [Lx.pre]
    | cons c r =>
      obtain ⟨h1, h2, h3, h4⟩ := drop_cons hd
      rw [hd] at hl
      have hple := piece_le (c :: r)
      -- one piece of m bytes
      have go : ∀ (m : Nat), Lx.piece (c :: r) = m → 0 < m →
          (Ev (fun k => lsc_before.l0 k (x3 : Int) s ((a + m : Nat) : Int) km sg (Lx.clearAfter (c :: r) m f))
            (s.extract x3 (a + (Lx.pre (c :: r).length (c :: r) f).1), s, ((a + (Lx.pre (c :: r).length (c :: r) f).1 : Nat) : Int), km, (Lx.pre (c :: r).length (c :: r) f).2)) := by
        intro m hm hm0
        have e := ih (a + m) (Lx.clearAfter (c :: r) m f) (by rw [drop_drop', hd, List.length_drop]; omega) (by simp only [List.length_cons] at hple hl; omega) (by omega)
        rw [drop_drop', hd] at e
        rw [pre_step (c :: r) f m hm hm0]
        simp only [Nat.add_assoc] at e ⊢
        exact e
      by_cases e10 : c = 10
      · subst e10
        have g := go 1 (by simp [piece_cons, Lx.isBl]) (by omega)
        rw [ca1] at g
        refine Ev.step (fun k => ?_) g
        simp only [lsc_before.l0]
        rw [if_pos (by omega), if_pos (by omega), h2, if_pos (by decide), w64 (by omega) (by omega)]
        simp [Lx.isFF]
      by_cases e32 : c = 32
      · subst e32
        have g := go 1 (by simp [piece_cons, Lx.isBl]) (by omega)
        rw [ca1] at g
        refine Ev.step (f := fun k => lsc_before.j1 k x3 ((32 : UInt8).toNat : Int) true s (a : Int) km sg f) (fun k => ?_) (Ev.step (fun k => ?_) g)
        · simp only [lsc_before.l0]
          rw [if_pos (by omega), if_pos (by omega), h2, if_neg (by decide), if_pos (by decide)]
        · simp only [lsc_before.j1]
          rw [if_pos trivial, w64 (by omega) (by omega)]
          simp [Lx.isFF]
      by_cases e9 : c = 9
      · subst e9
        have g := go 1 (by simp [piece_cons, Lx.isBl]) (by omega)
        rw [ca1] at g
        refine Ev.step (f := fun k => lsc_before.j1 k x3 ((9 : UInt8).toNat : Int) true s (a : Int) km sg f) (fun k => ?_) (Ev.step (fun k => ?_) g)
        · simp only [lsc_before.l0]
          rw [if_pos (by omega), if_pos (by omega), h2, if_neg (by decide), if_neg (by decide)]
          rfl
        · simp only [lsc_before.j1]
          rw [if_pos trivial, w64 (by omega) (by omega)]
          simp [Lx.isFF]
      refine to_j1 hd hs e10 e32 e9 (to_j2 rfl ?_)
      by_cases eff : Lx.isFF c = true
      · have g := go 1 (by simp [piece_cons, Lx.isBl, eff]) (by omega)
        rw [ca1, if_pos eff] at g
        unfold Lx.isFF at eff
        rw [eff]
        refine Ev.step (fun k => ?_) g
        simp only [lsc_before.j2]
        rw [if_pos trivial, w64 (by omega) (by omega)]
        rfl
      have eff' : Lx.isFF c = false := by simpa using eff
      have hbl : Lx.isBl c = false := by simp [Lx.isBl, eff', bf e10, bf e32, bf e9]
      unfold Lx.isFF at eff'
      rw [eff']
      refine to_j3 ha hs rfl ?_
      rw [hd, nx1]
      have hh : ∀ d : UInt8, d ≠ 0 → ((r.headD 0 == d) = true ↔ r.head? = some d) := by
        intro d hd0
        cases r with
        | nil => simp; exact fun h => hd0 h.symm
        | cons x y => simp
      by_cases j3 : c = 92 ∧ r.head? = some 10
      · obtain ⟨rfl, hr⟩ := j3
        have hr' := (hh 10 (by decide)).mpr hr
        have g := go 2 (by simp [piece_cons, Lx.isBl, Lx.isFF, hr]) (by omega)
        rw [hr']
        refine Ev.step (fun k => ?_) g
        simp only [lsc_before.j3]
        rw [if_pos (by decide), w64 (by omega) (by omega)]
        congr 1
        obtain ⟨r', rfl⟩ : ∃ r', r = 10 :: r' := by cases r with
          | nil => simp at hr
          | cons x y => simp at hr; exact ⟨y, by rw [hr]⟩
        simp [Lx.clearAfter]
      have j3' : (c == 92 && r.headD 0 == 10) = false := by
        rw [Bool.eq_false_iff]; intro h
        rw [Bool.and_eq_true, beq_iff_eq] at h
        exact j3 ⟨h.1, (hh 10 (by decide)).mp h.2⟩
      rw [j3']
      refine to_j4 ha hs rfl ?_
      rw [hd, nx1, nx2]
      by_cases j4 : c = 92 ∧ r.take 2 = [13, 10]
      · obtain ⟨rfl, hr⟩ := j4
        obtain ⟨r', rfl⟩ : ∃ r', r = 13 :: 10 :: r' := by
          cases r with
          | nil => simp at hr
          | cons x y => cases y with
            | nil => simp at hr
            | cons z t => simp at hr; exact ⟨t, by rw [hr.1, hr.2]⟩
        have g := go 3 (by simp [piece_cons, Lx.isBl, Lx.isFF]) (by omega)
        refine Ev.step (fun k => ?_) g
        simp only [lsc_before.j4]
        rw [if_pos (by simp), w64 (by omega) (by omega)]
        congr 1
        simp [Lx.clearAfter]
      have j4' : (c == 92 && r.headD 0 == 13 && (r.drop 1).headD 0 == 10) = false := by
        rw [Bool.eq_false_iff]; intro h
        rw [Bool.and_eq_true, Bool.and_eq_true, beq_iff_eq, beq_iff_eq, beq_iff_eq] at h
        obtain ⟨⟨h5, h6⟩, h7⟩ := h
        refine j4 ⟨h5, ?_⟩
        cases r with
        | nil => simp at h6
        | cons x y => cases y with
          | nil => simp at h7
          | cons z t => simp at h6 h7; simp [h6, h7]
      rw [j4']
      have hpc : Lx.piece (c :: r) = Lx.cmt (c :: r) := by
        rw [piece_cons, if_neg (by simp [hbl])]
        by_cases e92 : c = 92
        · rw [if_pos e92, if_neg (fun h => j3 ⟨e92, h⟩), if_neg (fun h => j4 ⟨e92, h⟩)]
          simp [Lx.cmt, e92]
        · rw [if_neg e92]
      have hce := comment_eq s a km sg f ha hs
      rw [hd] at hce
      by_cases hz : 0 < Lx.cmt (c :: r)
      · have g := go _ hpc hz
        refine Ev.step (fun k => ?_) g
        simp only [lsc_before.j4]
        rw [if_neg (by simp), hce]
        simp only [Option.bind_some]
        rw [if_pos (by simpa using hz)]
        congr 1
        have h47 : c = 47 := by
          by_cases e : c = 47
          · exact e
          · simp [Lx.cmt, e] at hz
        subst h47
        have hca : Lx.clearAfter (47 :: r) (Lx.cmt (47 :: r)) f = (f || ((47 :: r).take (Lx.cmt (47 :: r))).contains 10) := by
          unfold Lx.clearAfter
          rw [if_neg (by simp [Lx.isFF])]
        rw [hca]
        by_cases hr47 : r.head? = some 47
        · have e1 : Lx.cmt (47 :: r) = Lx.upto10 (47 :: r) := by simp [Lx.cmt, hr47, Lx.upto10]
          rw [e1, upto10_no]
          rw [if_neg]
          · simp
          · cases r with
            | nil => simp at hr47
            | cons x y => simp at hr47; simp [hr47]
        · have hr42 : r.head? = some 42 := by
            by_cases e : r.head? = some 42
            · exact e
            · simp [Lx.cmt, hr47, e] at hz
          rw [if_pos]
          cases r with
          | nil => simp at hr42
          | cons x y => simp at hr42; simp [hr42]
      · have h0 : Lx.cmt (c :: r) = 0 := by omega
        rw [pre_stop (c :: r) f (by rw [hpc, h0])]
        refine Ev.step (fun k => ?_) (Ev.now _)
        simp only [lsc_before.j4]
        rw [if_neg (by simp), hce, h0]
        simp only [Option.bind_some]
        rw [if_neg (by simp), if_pos (by omega), if_pos (by omega), if_pos (by omega)]
        simp only [Int.toNat_natCast, Nat.add_zero]
        congr 3
        simp
theorem before_eq (s : ByteArray) (hs : s.size ≤ 200000) (a : Nat) (ha : a ≤ s.size) (km : Option Nat) (sg : List ByteArray) (f : Bool) :
    ∃ k, lsc_before.f k s a km sg f = some (s.extract a (a + (Lx.pre ((bl s).drop a).length ((bl s).drop a) f).1), s, ((a + (Lx.pre ((bl s).drop a).length ((bl s).drop a) f).1 : Nat) : Int), km, (Lx.pre ((bl s).drop a).length ((bl s).drop a) f).2) :=
  (before_ev s hs a km sg _ a f (Nat.le_refl _) ha (Nat.le_refl _)).rounds
end Go.Proofs.YtabnmkakgcifoaaDoor.PLex

namespace Go.Proofs.YtabnmkakgcifoaaDoor.PLex
open Go.RowKit Go.Proofs.YtabnmkakgcifoaaDoorW.PrintWords Go.Proofs.YtabnmkakgcifoaaDoorW.PrintLast Go.Proofs.YtabnmkakgcifoaaDoorW.PrintMore
theorem isL_iff (c : UInt8) : Lx.isL c = true ↔ (97 ≤ c.toNat ∧ c.toNat ≤ 122) ∨ (65 ≤ c.toNat ∧ c.toNat ≤ 90) ∨ c.toNat = 95 := by
  simp only [Lx.isL, Bool.or_eq_true, Bool.and_eq_true, decide_eq_true_eq, beq_iff_eq, UInt8.le_iff_toNat_le, ← UInt8.toNat_inj]
  show ((97 ≤ c.toNat ∧ c.toNat ≤ 122) ∨ (65 ≤ c.toNat ∧ c.toNat ≤ 90)) ∨ c.toNat = 95 ↔ _
  omega
theorem isD_iff (c : UInt8) : Lx.isD c = true ↔ 48 ≤ c.toNat ∧ c.toNat ≤ 57 := by
  simp only [Lx.isD, Bool.and_eq_true, decide_eq_true_eq, UInt8.le_iff_toNat_le]
  exact Iff.rfl
theorem letter_eq (c : UInt8) : lex_isLetter.f (c.toNat : Int) = some (Lx.isL c) := by
  unfold lex_isLetter.f
  have h := isL_iff c
  by_cases hl : Lx.isL c = true
  · rw [hl]; rw [hl] at h
    have := h.mp rfl
    repeat' split
    all_goals first | rfl | (simp; omega)
  · have hf : Lx.isL c = false := by simpa using hl
    rw [hf]
    have := fun q => hl (h.mpr q)
    repeat' split
    all_goals first | (exfalso; apply this; omega) | (simp; intro q; apply this; omega)
theorem digit_eq (c : UInt8) : lex_isDigit.f (c.toNat : Int) = some (Lx.isD c) := by
  unfold lex_isDigit.f
  have h := isD_iff c
  by_cases hl : Lx.isD c = true
  · rw [hl]; rw [hl] at h
    have := h.mp rfl
    rw [if_pos (by omega)]
    simp; omega
  · have hf : Lx.isD c = false := by simpa using hl
    rw [hf]
    have : ¬ (48 ≤ c.toNat ∧ c.toNat ≤ 57) := fun q => hl (h.mpr q)
    split
    · simp; omega
    · rfl
theorem nx_nil {l : List UInt8} {n : Nat} (h : l.drop n = []) : nx l n = 0 := by simp [nx, h]
theorem nx_cons {l : List UInt8} {n : Nat} {c : UInt8} {r : List UInt8} (h : l.drop n = c :: r) : nx l n = c := by simp [nx, h]
theorem drop_succ {l : List UInt8} {n : Nat} {c : UInt8} {r : List UInt8} (h : l.drop n = c :: r) : l.drop (n + 1) = r := by
  rw [← List.drop_drop, h]; rfl
theorem drop_lt {l : List UInt8} {n : Nat} {c : UInt8} {r : List UInt8} (h : l.drop n = c :: r) : n + r.length + 1 = l.length := by
  have := congrArg List.length h
  simp only [List.length_drop, List.length_cons] at this
  omega
section
variable (s : ByteArray) (hs : s.size ≤ 200000) (a : Nat) (ha : a ≤ s.size) (km : Option Nat) (sg : List ByteArray) (f : Bool) (l : List UInt8) (hl : (bl s).drop a = l)
include hl in
theorem len_l : l.length = s.size - a := by rw [← hl, List.length_drop, bl_length]
include hs ha hl
theorem next_l (n : Nat) (hn : n ≤ 400000) : lsc_next.f s a km sg f n = some (((nx l n).toNat : Int), s, (a : Int), km, f) := by
  rw [next_eq s a n km sg f ha hs hn, hl]
theorem name_ev : ∀ (m n : Nat), l.length < n + m → n ≤ l.length →
    Ev (fun k => lsc_name.l0 k (n : Int) s a km sg f) (((n + ((l.drop n).takeWhile Lx.isLD).length : Nat) : Int), s, (a : Int), km, f) := by
  have hll := len_l s a l hl
  have N := next_l s hs a ha km sg f l hl
  intro m
  induction m with
  | zero => intro n hm hn; omega
  | succ m ih =>
    intro n hm hn
    have hw1 : wrap64 ((n : Int) + 1) = ((n + 1 : Nat) : Int) := by rw [w64 (by omega) (by omega)]; omega
    have head : ∀ k, lsc_name.l0 (k + 1) (n : Int) s a km sg f = if Lx.isL (nx l n) = true then lsc_name.l0 k ((n + 1 : Nat) : Int) s a km sg f
        else if Lx.isD (nx l n) = true then lsc_name.l0 k ((n + 1 : Nat) : Int) s a km sg f else some ((n : Int), s, (a : Int), km, f) := by
      intro k
      rw [lsc_name.l0, N n (by omega), Option.bind_some]
      dsimp only
      rw [letter_eq, Option.bind_some, N n (by omega), Option.bind_some]
      dsimp only
      rw [digit_eq, Option.bind_some, hw1]
    cases hd : l.drop n with
    | nil =>
      refine Ev.step (fun k => ?_) (Ev.now _)
      rw [head, nx_nil hd, if_neg (by decide), if_neg (by decide)]
      simp
    | cons c r =>
      have hlt := drop_lt hd
      have e := ih (n + 1) (by omega) (by omega)
      rw [drop_succ hd] at e
      by_cases hc : Lx.isLD c = true
      · rw [List.takeWhile_cons_of_pos hc]
        rw [show n + (c :: r.takeWhile Lx.isLD).length = n + 1 + (r.takeWhile Lx.isLD).length by simp only [List.length_cons]; omega]
        refine Ev.step (fun k => ?_) e
        rw [head, nx_cons hd]
        unfold Lx.isLD at hc
        by_cases hL : Lx.isL c = true
        · rw [if_pos hL]
        · rw [if_neg hL, if_pos (by simpa [hL] using hc)]
      · rw [List.takeWhile_cons_of_neg hc]
        refine Ev.step (fun k => ?_) (Ev.now _)
        rw [head, nx_cons hd]
        unfold Lx.isLD at hc
        rw [Bool.or_eq_true] at hc
        rw [if_neg (fun h => hc (.inl h)), if_neg (fun h => hc (.inr h))]
        simp
theorem name_eq : Ev (fun k => lsc_name.f k s a km sg f) (((if Lx.isL (l.headD 0) then Lx.nameLen l else 0 : Nat) : Int), s, (a : Int), km, f) := by
  have hll := len_l s a l hl
  have e := name_ev s hs a ha km sg f l hl (l.length + 1) 0 (by omega) (by omega)
  have N0 := next_l s hs a ha km sg f l hl 0 (by omega)
  have h0 : nx l 0 = l.headD 0 := by simp [nx]
  rw [h0] at N0
  unfold lsc_name.f
  by_cases hL : Lx.isL (l.headD 0) = true
  · rw [if_pos hL]
    simp only [List.drop_zero, Nat.zero_add] at e
    refine Ev.congr (fun k => ?_) e
    rw [show lsc_next.f s a km sg f 0 = _ from N0]
    simp only [Option.bind_some, letter_eq]
    rw [if_pos hL]
    rfl
  · rw [if_neg hL]
    refine Ev.congr (fun k => ?_) (Ev.now _)
    rw [show lsc_next.f s a km sg f 0 = _ from N0]
    simp only [Option.bind_some, letter_eq]
    rw [if_neg hL]
    rfl
theorem number_ev : ∀ (m n : Nat), l.length < n + m → n ≤ l.length → 0 < n →
    Ev (fun k => lsc_number.l0 k (n : Int) s a km sg f) (((n + Lx.numRest (nx l (n - 1)) (l.drop n) : Nat) : Int), s, (a : Int), km, f) := by
  have hll := len_l s a l hl
  have N := next_l s hs a ha km sg f l hl
  intro m
  induction m with
  | zero => intro n hm hn; omega
  | succ m ih =>
    intro n hm hn hn0
    have hw : wrap64 ((n : Int) - 1) = ((n - 1 : Nat) : Int) := by rw [w64 (by omega) (by omega)]; omega
    generalize hp : nx l (n - 1) = p
    have N1 := N (n - 1) (by omega)
    rw [hp] at N1
    have hw1 : wrap64 ((n : Int) + 1) = ((n + 1 : Nat) : Int) := by rw [w64 (by omega) (by omega)]; omega
    have head : ∀ k, ∀ c, nx l n = c → lsc_number.l0 (k + 1) (n : Int) s a km sg f =
        if Lx.isL c = true then lsc_number.l0 k ((n + 1 : Nat) : Int) s a km sg f
        else if Lx.isD c = true then lsc_number.l0 k ((n + 1 : Nat) : Int) s a km sg f
        else if c = 46 then lsc_number.l0 k ((n + 1 : Nat) : Int) s a km sg f
        else if c = 43 then (if p = 101 then lsc_number.l0 k ((n + 1 : Nat) : Int) s a km sg f else if p = 69 then lsc_number.l0 k ((n + 1 : Nat) : Int) s a km sg f else some ((n : Int), s, (a : Int), km, f))
        else if c = 45 then (if p = 101 then lsc_number.l0 k ((n + 1 : Nat) : Int) s a km sg f else if p = 69 then lsc_number.l0 k ((n + 1 : Nat) : Int) s a km sg f else some ((n : Int), s, (a : Int), km, f))
        else some ((n : Int), s, (a : Int), km, f) := by
      intro k c hc
      rw [lsc_number.l0, N n (by omega), hc, Option.bind_some]
      dsimp only
      rw [hw, N1, Option.bind_some]
      dsimp only
      rw [letter_eq, Option.bind_some, digit_eq, Option.bind_some, hw1]
      simp only [ci46, ci43, ci45, ci101, ci69]
    cases hd : l.drop n with
    | nil =>
      refine Ev.step (fun k => ?_) (Ev.now _)
      rw [head k 0 (nx_nil hd), if_neg (by decide), if_neg (by decide), if_neg (by decide), if_neg (by decide), if_neg (by decide)]
      rfl
    | cons c r =>
      have hlt := drop_lt hd
      have e := ih (n + 1) (by omega) (by omega) (by omega)
      rw [drop_succ hd, Nat.add_sub_cancel, nx_cons hd] at e
      simp only [Lx.numRest]
      by_cases hc : (Lx.isLD c || c == 46 || ((c == 43 || c == 45) && (p == 101 || p == 69))) = true
      · rw [if_pos hc]
        rw [show n + (Lx.numRest c r + 1) = n + 1 + Lx.numRest c r by omega]
        refine Ev.step (fun k => ?_) e
        rw [head k c (nx_cons hd)]
        unfold Lx.isLD at hc
        by_cases hL : Lx.isL c = true
        · rw [if_pos hL]
        rw [if_neg hL]
        by_cases hD : Lx.isD c = true
        · rw [if_pos hD]
        rw [if_neg hD]
        by_cases h46 : c = 46
        · rw [if_pos h46]
        rw [if_neg h46]
        simp only [hL, hD, bf h46, Bool.or_false, Bool.false_or, Bool.and_eq_true, Bool.or_eq_true, beq_iff_eq] at hc
        have hc' : (c = 43 ∨ c = 45) ∧ (p = 101 ∨ p = 69) := by simpa using hc
        obtain ⟨h1, h2⟩ := hc'
        rcases h1 with h1 | h1
        · rw [if_pos h1]
          rcases h2 with h2 | h2
          · rw [if_pos h2]
          · by_cases h3 : p = 101
            · rw [if_pos h3]
            · rw [if_neg h3, if_pos h2]
        · rw [if_neg (by rw [h1]; decide), if_pos h1]
          rcases h2 with h2 | h2
          · rw [if_pos h2]
          · by_cases h3 : p = 101
            · rw [if_pos h3]
            · rw [if_neg h3, if_pos h2]
      · rw [if_neg hc]
        refine Ev.step (fun k => ?_) (Ev.now _)
        rw [head k c (nx_cons hd)]
        unfold Lx.isLD at hc
        simp only [Bool.or_eq_true, Bool.and_eq_true, beq_iff_eq, not_or, not_and] at hc
        obtain ⟨⟨⟨h1, h2⟩, h3⟩, h4⟩ := hc
        rw [if_neg h1, if_neg h2, if_neg h3]
        by_cases h43 : c = 43
        · have := h4 (.inl h43)
          rw [if_pos h43, if_neg this.1, if_neg this.2]; rfl
        · rw [if_neg h43]
          by_cases h45 : c = 45
          · have := h4 (.inr h45)
            rw [if_pos h45, if_neg this.1, if_neg this.2]; rfl
          · rw [if_neg h45]; rfl
theorem number_eq (c : UInt8) (r : List UInt8) (hcr : l = c :: r) : Ev (fun k => lsc_number.f k s a km sg f) (((if (Lx.isD c || (c == 46 && Lx.isD (r.headD 0))) = true then Lx.numRest c r + 1 else 0 : Nat) : Int), s, (a : Int), km, f) := by
  have hll := len_l s a l hl
  have N0 := next_l s hs a ha km sg f l hl 0 (by omega)
  have N1 := next_l s hs a ha km sg f l hl 1 (by omega)
  have h0 : nx l 0 = c := by simp [nx, hcr]
  have h1 : nx l 1 = r.headD 0 := by simp [nx, hcr]
  rw [h0] at N0
  rw [h1] at N1
  have e := number_ev s hs a ha km sg f l hl (l.length + 1) 1 (by omega) (by rw [hcr]; simp) (by omega)
  rw [Nat.sub_self, h0, show l.drop 1 = r by rw [hcr]; rfl, Nat.add_comm 1] at e
  unfold lsc_number.f
  have goes : Ev (fun k => lsc_number.j0 k false s a km sg f) (((Lx.numRest c r + 1 : Nat) : Int), s, (a : Int), km, f) := by
    refine Ev.step (fun k => ?_) e
    simp only [lsc_number.j0]
    rw [if_neg (by simp)]
    rfl
  have stops : Ev (fun k => lsc_number.j0 k true s a km sg f) ((((0 : Nat)) : Int), s, (a : Int), km, f) := by
    refine Ev.step (fun k => ?_) (Ev.now _)
    simp only [lsc_number.j0]
    rw [if_pos trivial]
    rfl
  by_cases hD : Lx.isD c = true
  · rw [if_pos (by simp [hD])]
    refine Ev.congr (fun k => ?_) goes
    rw [show lsc_next.f s a km sg f 0 = _ from N0]
    simp only [Option.bind_some, digit_eq]
    rw [if_pos hD]
  · by_cases h46 : c = 46
    · by_cases hD2 : Lx.isD (r.headD 0) = true
      · rw [if_pos (by rw [h46]; simp only [Bool.or_eq_true, Bool.and_eq_true]; exact .inr ⟨by decide, hD2⟩)]
        refine Ev.congr (fun k => ?_) goes
        rw [show lsc_next.f s a km sg f 0 = _ from N0]
        simp only [Option.bind_some, digit_eq]
        rw [if_neg hD, show lsc_next.f s a km sg f 0 = _ from N0]
        simp only [Option.bind_some]
        rw [if_pos ((ci46 c).mpr h46), show lsc_next.f s a km sg f 1 = _ from N1]
        simp only [Option.bind_some, digit_eq, hD2]
        rfl
      · rw [if_neg (by simp only [Bool.or_eq_true, Bool.and_eq_true, not_or, not_and]; exact ⟨hD, fun _ => hD2⟩)]
        refine Ev.congr (fun k => ?_) stops
        rw [show lsc_next.f s a km sg f 0 = _ from N0]
        simp only [Option.bind_some, digit_eq]
        rw [if_neg hD, show lsc_next.f s a km sg f 0 = _ from N0]
        simp only [Option.bind_some]
        rw [if_pos ((ci46 c).mpr h46), show lsc_next.f s a km sg f 1 = _ from N1]
        simp only [Option.bind_some, digit_eq, show Lx.isD (r.headD 0) = false by simpa using hD2]
        rfl
    · rw [if_neg (by simp [hD, h46])]
      refine Ev.congr (fun k => ?_) stops
      rw [show lsc_next.f s a km sg f 0 = _ from N0]
      simp only [Option.bind_some, digit_eq]
      rw [if_neg hD, show lsc_next.f s a km sg f 0 = _ from N0]
      simp only [Option.bind_some]
      rw [if_neg (by rw [ci46]; exact h46)]
/-- where a string or character ends: behind its closing mark; 0 if it does not -/
def qend (n : Nat) : Option Nat → Nat
  | some q => n + q
  | none => 0
theorem quoted_ev (mk : UInt8) (_h10 : mk ≠ 10) : ∀ (m n : Nat), l.length < n + m → n ≤ l.length + 1 →
    Ev (fun k => lsc_quoted.l0 k (mk.toNat : Int) (n : Int) s a km sg f) (((qend n (Lx.quoted mk (l.drop n)) : Nat) : Int), s, (a : Int), km, f) := by
  have hll := len_l s a l hl
  have N := next_l s hs a ha km sg f l hl
  intro m
  induction m with
  | zero =>
    intro n hm hn
    have hd : l.drop n = [] := List.drop_eq_nil_iff.mpr (by omega)
    rw [hd]
    refine Ev.step (fun k => ?_) (Ev.now _)
    simp only [lsc_quoted.l0]
    rw [w64 (by omega) (by omega), if_neg (by omega)]
    rfl
  | succ m ih =>
    intro n hm hn
    cases hd : l.drop n with
    | nil =>
      have := List.drop_eq_nil_iff.mp hd
      refine Ev.step (fun k => ?_) (Ev.now _)
      simp only [lsc_quoted.l0]
      rw [w64 (by omega) (by omega), if_neg (by omega)]
      rfl
    | cons c r =>
      have hlt := drop_lt hd
      have hw : wrap64 ((a : Int) + (n : Int)) < (s.size : Int) := by rw [w64 (by omega) (by omega)]; omega
      have hw1 : wrap64 ((n : Int) + 1) = ((n + 1 : Nat) : Int) := by rw [w64 (by omega) (by omega)]; omega
      have hw2 : wrap64 (((n + 1 : Nat) : Int) + 1) = ((n + 2 : Nat) : Int) := by rw [w64 (by omega) (by omega)]; omega
      have tm : ((c.toNat : Int) = (mk.toNat : Int)) ↔ c = mk := by rw [← UInt8.toNat_inj]; omega
      have head : ∀ k, lsc_quoted.l0 (k + 1) (mk.toNat : Int) (n : Int) s a km sg f =
          if c = mk then some (((n + 1 : Nat) : Int), s, (a : Int), km, f) else if c = 10 then some (0, s, (a : Int), km, f)
          else if c = 92 then (if nx l (n + 1) = 10 then some (0, s, (a : Int), km, f) else lsc_quoted.l0 k (mk.toNat : Int) ((n + 2 : Nat) : Int) s a km sg f)
          else lsc_quoted.l0 k (mk.toNat : Int) ((n + 1 : Nat) : Int) s a km sg f := by
        intro k
        rw [lsc_quoted.l0, if_pos hw, N n (by omega), nx_cons hd, Option.bind_some]
        dsimp only
        rw [hw1, N (n + 1) (by omega), Option.bind_some]
        dsimp only
        rw [hw2]
        simp only [ci10, ci92, tm]
      by_cases hm1 : c = mk
      · refine Ev.step (fun k => ?_) (Ev.now _)
        rw [head, if_pos hm1]
        cases r <;> simp [Lx.quoted, hm1, qend]
      by_cases h10' : c = 10
      · refine Ev.step (fun k => ?_) (Ev.now _)
        rw [head, if_neg hm1, if_pos h10']
        cases r <;> simp only [Lx.quoted, if_neg hm1, if_pos h10', qend] <;> rfl
      by_cases h92 : c = 92
      · cases hr : r with
        | nil =>
          have e := ih (n + 2) (by omega) (by rw [hr] at hlt; simp at hlt; omega)
          have hz : nx l (n + 1) = 0 := nx_nil (by rw [drop_succ hd, hr])
          have hz2 : l.drop (n + 2) = [] := by rw [show n + 2 = n + 1 + 1 from rfl, ← List.drop_drop, drop_succ hd, hr]; rfl
          rw [hz2] at e
          rw [show qend n (Lx.quoted mk [c]) = qend (n + 2) (Lx.quoted mk []) by simp [Lx.quoted, hm1, qend]]
          refine Ev.step (fun k => ?_) e
          rw [head, if_neg hm1, if_neg h10', if_pos h92, hz, if_neg (by decide)]
        | cons d r' =>
          have hz : nx l (n + 1) = d := nx_cons (by rw [drop_succ hd, hr])
          have hz2 : l.drop (n + 2) = r' := by rw [show n + 2 = n + 1 + 1 from rfl, ← List.drop_drop, drop_succ hd, hr]; rfl
          by_cases hd10 : d = 10
          · refine Ev.step (fun k => ?_) (Ev.now _)
            rw [head, if_neg hm1, if_neg h10', if_pos h92, hz, if_pos hd10]
            simp only [Lx.quoted, if_neg hm1, if_neg h10', if_pos h92, if_pos hd10, qend]
            rfl
          · have e := ih (n + 2) (by omega) (by rw [hr] at hlt; simp at hlt; omega)
            rw [hz2] at e
            have hq : qend n (Lx.quoted mk (c :: d :: r')) = qend (n + 2) (Lx.quoted mk r') := by
              simp only [Lx.quoted]
              rw [if_neg hm1, if_neg h10', if_pos h92, if_neg hd10]
              cases Lx.quoted mk r' <;> simp [qend]; omega
            rw [hq]
            refine Ev.step (fun k => ?_) e
            rw [head, if_neg hm1, if_neg h10', if_pos h92, hz, if_neg hd10]
      · have e := ih (n + 1) (by omega) (by omega)
        rw [drop_succ hd] at e
        have hq : qend n (Lx.quoted mk (c :: r)) = qend (n + 1) (Lx.quoted mk r) := by
          cases r with
          | nil => simp [Lx.quoted, hm1, qend]
          | cons d r' =>
            simp only [Lx.quoted]
            rw [if_neg hm1, if_neg h10', if_neg h92]
            cases Lx.quoted mk (d :: r') <;> simp [qend]; omega
        rw [hq]
        refine Ev.step (fun k => ?_) e
        rw [head, if_neg hm1, if_neg h10', if_neg h92]
theorem quoted_eq (mk : UInt8) (h10 : mk ≠ 10) (c : UInt8) (r : List UInt8) (hcr : l = c :: r) :
    Ev (fun k => lsc_quoted.f k s a km sg f (mk.toNat : Int)) (((if c = mk then qend 1 (Lx.quoted mk r) else 0 : Nat) : Int), s, (a : Int), km, f) := by
  have N0 := next_l s hs a ha km sg f l hl 0 (by omega)
  have h0 : nx l 0 = c := by simp [nx, hcr]
  rw [h0] at N0
  have tm : ((c.toNat : Int) = (mk.toNat : Int)) ↔ c = mk := by rw [← UInt8.toNat_inj]; omega
  have e := quoted_ev s hs a ha km sg f l hl mk h10 (l.length + 1) 1 (by omega) (by omega)
  rw [show l.drop 1 = r by rw [hcr]; rfl] at e
  unfold lsc_quoted.f
  by_cases hc : c = mk
  · rw [if_pos hc]
    refine Ev.congr (fun k => ?_) e
    rw [show lsc_next.f s a km sg f 0 = _ from N0]
    simp only [Option.bind_some]
    rw [if_pos (tm.mpr hc)]
    rfl
  · rw [if_neg hc]
    refine Ev.congr (fun k => ?_) (Ev.now _)
    rw [show lsc_next.f s a km sg f 0 = _ from N0]
    simp only [Option.bind_some]
    rw [if_neg (fun h => hc (tm.mp h))]
    rfl
end
end Go.Proofs.YtabnmkakgcifoaaDoor.PLex

namespace Go.Proofs.YtabnmkakgcifoaaDoor.PLex
open Go.RowKit Go.Proofs.YtabnmkakgcifoaaDoorW.PrintWords Go.Proofs.YtabnmkakgcifoaaDoorW.PrintLast Go.Proofs.YtabnmkakgcifoaaDoorW.PrintMore
theorem sizeOne (b : UInt8) : ((⟨#[b]⟩ : ByteArray).size : Int) = 1 := rfl
theorem blOne (b : UInt8) : bl (⟨#[b]⟩ : ByteArray) = [b] := rfl
theorem slHasSuffix1 (x : ByteArray) (b : UInt8) (hx : x.size ≤ 200000) : stringslite_HasSuffix.f x (⟨#[b]⟩ : ByteArray) = some ((bl x).getLast? == some b) := by
  unfold stringslite_HasSuffix.f
  have hl := bl_length x
  rw [sizeOne]
  by_cases h : (x.size : Int) ≥ 1
  · rw [if_pos h, w64 (by omega) (by omega), if_pos (by omega), if_pos (by omega)]
    simp only [Option.some.injEq]
    rw [toList_bl, toList_bl, extract_bl, blOne]
    have hn : bl x ≠ [] := by intro h0; rw [h0] at hl; simp at hl; omega
    obtain ⟨q, c, hq⟩ : ∃ q c, bl x = q ++ [c] := ⟨(bl x).dropLast, (bl x).getLast hn, (List.dropLast_concat_getLast hn).symm⟩
    rw [hq] at hl ⊢
    simp only [List.length_append, List.length_singleton] at hl
    rw [show ((x.size : Int) - 1).toNat = q.length by omega, List.drop_left, List.getLast?_concat]
    rw [List.take_of_length_le (by simp; omega), Bool.eq_iff_iff]
    simp
  · rw [if_neg h]
    have : bl x = [] := List.eq_nil_of_length_eq_zero (by omega)
    rw [this]; rfl
theorem hasSuffix1 (x : ByteArray) (b : UInt8) (hx : x.size ≤ 200000) : strings_HasSuffix.f x (⟨#[b]⟩ : ByteArray) = some ((bl x).getLast? == some b) := by
  unfold strings_HasSuffix.f
  rw [slHasSuffix1 x b hx]; rfl
theorem trimSuffix1 (x : ByteArray) (b : UInt8) (hx : x.size ≤ 200000) : ∃ y, strings_TrimSuffix.f x (⟨#[b]⟩ : ByteArray) = some y ∧ bl y = if (bl x).getLast? = some b then (bl x).dropLast else bl x := by
  unfold strings_TrimSuffix.f stringslite_TrimSuffix.f
  have hl := bl_length x
  rw [slHasSuffix1 x b hx, sizeOne]
  simp only [Option.bind_some]
  by_cases h : (bl x).getLast? = some b
  · have hn : 1 ≤ x.size := by
      rcases Nat.eq_zero_or_pos x.size with h0 | h0
      · rw [List.eq_nil_of_length_eq_zero (by omega : (bl x).length = 0)] at h; simp at h
      · exact h0
    rw [if_pos (by simp [h]), w64 (by omega) (by omega), if_pos (by omega), if_pos (by omega), if_pos h]
    refine ⟨_, rfl, ?_⟩
    rw [extract_bl, List.drop_zero, Nat.sub_zero, List.dropLast_eq_take, hl]
    congr 1; omega
  · rw [if_neg (by simpa using h), if_neg h]
    exact ⟨x, rfl, rfl⟩
/-- the last byte, and the one before -/
def la (p : List UInt8) : UInt8 := p.getLastD 0
def la2 (p : List UInt8) : UInt8 := p.dropLast.getLastD 0
theorem la_snoc (p : List UInt8) (c : UInt8) : la (p ++ [c]) = c := by simp [la]
theorem la2_snoc (p : List UInt8) (c : UInt8) : la2 (p ++ [c]) = la p := by simp [la2, la]
def joined (p : List UInt8) : Bool := la p == 92 || (la p == 13 && la2 p == 92)
theorem nil_or_snoc (p : List UInt8) : p = [] ∨ ∃ q c, p = q ++ [c] := by
  by_cases h : p = []
  · exact .inl h
  · exact .inr ⟨p.dropLast, p.getLast h, (List.dropLast_concat_getLast h).symm⟩
theorem getLast_la (p : List UInt8) (b : UInt8) (hb : b ≠ 0) : (p.getLast? == some b) = (la p == b) := by
  rcases nil_or_snoc p with rfl | ⟨q, c, rfl⟩
  · have : (0 == b) = false := beq_eq_false_iff_ne.mpr fun h => hb h.symm
    simp [la, this]
  · rw [la_snoc, List.getLast?_concat, Bool.eq_iff_iff]; simp
theorem ln_no (pp p : UInt8) (l : List UInt8) (h : Lx.upto10 l = l.length) : Lx.ln pp p l = l.length := by
  induction l generalizing pp p with
  | nil => rfl
  | cons c r ih =>
    simp only [Lx.upto10] at h
    by_cases hc : c = 10
    · rw [if_pos hc] at h; simp at h
    · rw [if_neg hc] at h
      simp only [Lx.ln]
      rw [if_neg (fun h => hc h.1), ih _ _ (by simp at h; exact h)]
      simp
/-- up to the line feed, then by what stands before it -/
theorem ln_at (P : List UInt8) (l : List UInt8) (h : Lx.upto10 l < l.length) :
    Lx.ln (la2 P) (la P) l = if joined (P ++ l.take (Lx.upto10 l)) then Lx.upto10 l + 1 + Lx.ln (la (P ++ l.take (Lx.upto10 l))) 10 (l.drop (Lx.upto10 l + 1)) else Lx.upto10 l := by
  induction l generalizing P with
  | nil => simp at h
  | cons c r ih =>
    by_cases hc : c = 10
    · subst hc
      have hu : Lx.upto10 (10 :: r) = 0 := by simp [Lx.upto10]
      rw [hu, List.take_zero, List.append_nil]
      simp only [Lx.ln]
      by_cases hj : joined P = true
      · rw [if_pos hj, if_neg]
        · simp; omega
        · unfold joined at hj
          simp only [Bool.or_eq_true, Bool.and_eq_true, beq_iff_eq] at hj
          exact fun h => h.2 hj
      · rw [if_neg hj, if_pos]
        unfold joined at hj
        simp only [Bool.or_eq_true, Bool.and_eq_true, beq_iff_eq] at hj
        exact ⟨trivial, hj⟩
    · have hu : Lx.upto10 (c :: r) = Lx.upto10 r + 1 := by simp [Lx.upto10, hc]
      rw [hu] at h ⊢
      simp only [Lx.ln]
      rw [if_neg (fun h => hc h.1)]
      have e := ih (P ++ [c]) (by simp at h; exact h)
      rw [la2_snoc, la_snoc] at e
      rw [e]
      simp only [List.take_succ_cons, List.append_assoc, List.singleton_append, List.drop_succ_cons]
      split <;> omega
theorem line_pick (p : List UInt8) : ((if p.getLast? = some 13 then p.dropLast else p).getLast? == some 92) = (if la p = 13 then la2 p == 92 else la p == 92) := by
  have e := getLast_la p 13 (by decide)
  by_cases h : la p = 13
  · rw [if_pos h, if_pos, getLast_la _ 92 (by decide)]
    · rfl
    · rw [h] at e; simpa using e
  · rw [if_neg h, if_neg, getLast_la _ 92 (by decide)]
    intro h2; rw [h2] at e
    simp at e; exact h e
section
variable (s : ByteArray) (hs : s.size ≤ 200000) (a : Nat) (ha : a ≤ s.size) (km : Option Nat) (sg : List ByteArray) (f : Bool) (l : List UInt8) (x : ByteArray) (hx : bl x = l) (hxs : x.size ≤ 200000)
def fin (l : List UInt8) (n : Nat) : Nat := if n < l.length ∧ la (l.take n) = 13 then n - 1 else n
include hx hxs
theorem line_ev : ∀ (m e : Nat), l.length < e + m → e ≤ l.length →
    Ev (fun k => lsc_line.l0 k x (e : Int) s a km sg f) (((fin l (e + Lx.ln (la2 (l.take e)) (la (l.take e)) (l.drop e)) : Nat) : Int), s, (a : Int), km, f) := by
  have hl : l.length = x.size := by rw [← hx, bl_length]
  intro m
  induction m with
  | zero => intro e h1 h2; omega
  | succ m ih =>
    intro e h1 h2
    have hd : bl (x.extract (e : Int).toNat x.size) = l.drop e := by
      rw [Int.toNat_natCast, extract_bl, hx, List.take_of_length_le (by rw [List.length_drop]; omega)]
    have hi : strings_IndexByte.f (x.extract (e : Int).toNat x.size) 10 = some (Lib.indexByte (l.drop e) 10) := by
      unfold strings_IndexByte.f
      rw [show (x.extract (e : Int).toNat x.size).data.toList = l.drop e from hd]; rfl
    rcases indexByte_10 (l.drop e) with ⟨i1, i2⟩ | ⟨i1, i2⟩
    · rw [ln_no _ _ _ i2]
      refine Ev.step (fun k => ?_) (Ev.now _)
      rw [lsc_line.l0, if_pos (by omega), if_pos (by omega), hi, Option.bind_some, if_pos i1]
      simp only [fin, List.length_drop]
      rw [if_neg (by omega)]
      simp only [Option.some.injEq, Prod.mk.injEq, and_true]
      omega
    · rw [ln_at _ _ i2]
      have htk : l.take e ++ (l.drop e).take (Lx.upto10 (l.drop e)) = l.take (e + Lx.upto10 (l.drop e)) := (List.take_add).symm
      rw [htk]
      rw [List.length_drop] at i2
      generalize hu : Lx.upto10 (l.drop e) = u at *
      have hw : wrap64 ((e : Int) + Lib.indexByte (l.drop e) 10) = ((e + u : Nat) : Int) := by rw [i1, w64 (by omega) (by omega)]; omega
      have hw2 : wrap64 (((e + u : Nat) : Int) + 1) = ((e + u + 1 : Nat) : Int) := by rw [w64 (by omega) (by omega)]; omega
      have hte : bl (x.extract 0 ((e + u : Nat) : Int).toNat) = l.take (e + u) := by
        rw [Int.toNat_natCast, extract_bl, hx, List.drop_zero, Nat.sub_zero]
      have hsz : (x.extract 0 ((e + u : Nat) : Int).toNat).size = e + u := by
        rw [← bl_length, hte, List.length_take]; omega
      obtain ⟨y, hy1, hy2⟩ := trimSuffix1 (x.extract 0 ((e + u : Nat) : Int).toNat) 13 (by omega)
      rw [hte] at hy2
      have hys : y.size ≤ 200000 := by
        rw [← bl_length, hy2]
        split
        · rw [List.length_dropLast, List.length_take]; omega
        · rw [List.length_take]; omega
      have hs1 := hasSuffix1 (x.extract 0 ((e + u : Nat) : Int).toNat) 92 (by omega)
      rw [hte, getLast_la _ 92 (by decide)] at hs1
      have hs2 := hasSuffix1 y 92 hys
      rw [hy2, line_pick] at hs2
      have head : ∀ k, lsc_line.l0 (k + 1) x (e : Int) s a km sg f =
          if (la (l.take (e + u)) == 92) = true then lsc_line.l0 k x ((e + u + 1 : Nat) : Int) s a km sg f
          else if (if la (l.take (e + u)) = 13 then la2 (l.take (e + u)) == 92 else la (l.take (e + u)) == 92) = true then lsc_line.l0 k x ((e + u + 1 : Nat) : Int) s a km sg f
          else some ((y.size : Int), s, (a : Int), km, f) := by
        intro k
        rw [lsc_line.l0, if_pos (by omega), if_pos (by omega), hi, Option.bind_some, if_neg (by omega), hw, if_pos (by omega), if_pos (by omega), hy1, Option.bind_some, hs1, Option.bind_some, hw2, hs2, Option.bind_some]
      have hj : joined (l.take (e + u)) = true ↔ ((la (l.take (e + u)) == 92) = true ∨ (if la (l.take (e + u)) = 13 then la2 (l.take (e + u)) == 92 else la (l.take (e + u)) == 92) = true) := by
        unfold joined
        by_cases h13 : la (l.take (e + u)) = 13
        · simp [h13]
        · simp [h13, bf h13]
      by_cases hjt : joined (l.take (e + u)) = true
      · rw [if_pos hjt]
        have e1 := ih (e + u + 1) (by omega) (by omega)
        have hg : l.take (e + u + 1) = l.take (e + u) ++ [10] := by
          have hlt : e + u < l.length := by omega
          rw [List.take_succ_eq_append_getElem hlt]
          congr 2
          have : (l.drop e)[u]'(by rw [List.length_drop]; omega) = 10 := by
            have key : ∀ (q : List UInt8) (v : Nat) (hv : v < q.length), Lx.upto10 q = v → q[v] = 10 := by
              intro q
              induction q with
              | nil => intro v hv; simp at hv
              | cons c r ihq =>
                intro v hv hq
                simp only [Lx.upto10] at hq
                by_cases hc : c = 10
                · rw [if_pos hc] at hq; subst hq; simpa using hc
                · rw [if_neg hc] at hq
                  subst hq
                  simp only [List.getElem_cons_succ]
                  exact ihq _ (by simp at hv; exact hv) rfl
            exact key _ _ _ hu
          simpa [List.getElem_drop] using this
        rw [hg, la2_snoc, la_snoc] at e1
        rw [show e + (u + 1 + Lx.ln (la (l.take (e + u))) 10 ((l.drop e).drop (u + 1))) = e + u + 1 + Lx.ln (la (l.take (e + u))) 10 (l.drop (e + u + 1)) by rw [List.drop_drop, show e + (u + 1) = e + u + 1 by omega]; omega]
        refine Ev.step (fun k => ?_) e1
        rw [head]
        rcases hj.mp hjt with h | h
        · rw [if_pos h]
        · by_cases h' : (la (l.take (e + u)) == 92) = true
          · rw [if_pos h']
          · rw [if_neg h', if_pos h]
      · rw [if_neg hjt]
        have hn := fun h => hjt (hj.mpr h)
        refine Ev.step (fun k => ?_) (Ev.now _)
        rw [head, if_neg (fun h => hn (.inl h)), if_neg (fun h => hn (.inr h))]
        simp only [Option.some.injEq, Prod.mk.injEq, and_true]
        have hys2 : y.size = (if (l.take (e + u)).getLast? = some 13 then (l.take (e + u)).dropLast else l.take (e + u)).length := by rw [← hy2, bl_length]
        rw [hys2]
        unfold fin
        have e13 := getLast_la (l.take (e + u)) 13 (by decide)
        by_cases h13 : la (l.take (e + u)) = 13
        · rw [if_pos (by rw [h13] at e13; simpa using e13), if_pos ⟨by omega, h13⟩, List.length_dropLast, List.length_take]
          omega
        · rw [if_neg (by intro h2; rw [h2] at e13; simp at e13; exact h13 e13), if_neg (fun h => h13 h.2), List.length_take]
          omega
end
section
variable (s : ByteArray) (hs : s.size ≤ 200000) (a : Nat) (ha : a ≤ s.size) (km : Option Nat) (sg : List ByteArray) (f : Bool) (l : List UInt8) (hl : (bl s).drop a = l)
include hs ha hl
theorem line_eq (c : UInt8) (r : List UInt8) (hcr : l = c :: r) :
    Ev (fun k => lsc_line.f k s a km sg f) (((if c = 35 ∧ f = true then Lx.lineLen r else 0 : Nat) : Int), s, (a : Int), km, f) := by
  have hll := len_l s a l hl
  have N0 := next_l s hs a ha km sg f l hl 0 (by omega)
  have h0 : nx l 0 = c := by simp [nx, hcr]
  rw [h0] at N0
  have R := rest_eq s a km sg f ha
  have hx : bl (s.extract a s.size) = l := by rw [rest_bl s a ha, hl]
  have hxs : (s.extract a s.size).size ≤ 200000 := by rw [← bl_length, hx]; omega
  have e := line_ev s a km sg f l (s.extract a s.size) hx hxs (l.length + 1) 0 (by omega) (by omega)
  have stops : Ev (fun k => lsc_line.j0 k true s a km sg f) (((0 : Nat) : Int), s, (a : Int), km, f) := by
    refine Ev.step (fun k => ?_) (Ev.now _)
    rw [lsc_line.j0, if_pos rfl]
    rfl
  unfold lsc_line.f
  by_cases hf : f = true
  · by_cases hc : c = 35
    · rw [if_pos ⟨hc, hf⟩]
      have goes : Ev (fun k => lsc_line.j0 k false s a km sg f) (((Lx.lineLen r : Nat) : Int), s, (a : Int), km, f) := by
        have hlen : fin l (0 + Lx.ln (la2 (l.take 0)) (la (l.take 0)) (l.drop 0)) = Lx.lineLen r := by
          subst hc
          rw [hcr]
          simp only [List.take_zero, List.drop_zero, Nat.zero_add]
          have : Lx.ln (la2 []) (la []) (35 :: r) = Lx.ln 0 35 r + 1 := by
            simp only [Lx.ln]
            rw [if_neg (by simp)]
            rfl
          rw [this]
          rfl
        rw [hlen] at e
        refine Ev.step (fun k => ?_) e
        rw [lsc_line.j0, if_neg (by simp), R, Option.bind_some]
        rfl
      refine Ev.congr (fun k => ?_) goes
      rw [if_pos hf, show lsc_next.f s a km sg f 0 = _ from N0, Option.bind_some]
      dsimp only
      rw [show ((c.toNat : Int) != 35) = false by rw [hc]; rfl]
    · rw [if_neg (fun h => hc h.1)]
      refine Ev.congr (fun k => ?_) stops
      rw [if_pos hf, show lsc_next.f s a km sg f 0 = _ from N0, Option.bind_some]
      dsimp only
      rw [show ((c.toNat : Int) != 35) = true by rw [bne_iff_ne]; exact fun h => hc ((ci35 c).mp h)]
  · rw [if_neg (fun h => hf h.2)]
    refine Ev.congr (fun k => ?_) stops
    rw [if_neg hf]
def signsOf (sg : List ByteArray) : List (List UInt8) := sg.map bl
omit hs ha hl in
theorem signLen_snoc (q : List (List UInt8)) (t l : List UInt8) : Lx.signLen (q ++ [t]) l = if Lx.signLen q l < t.length ∧ t.isPrefixOf l then t.length else Lx.signLen q l := by
  unfold Lx.signLen
  rw [List.foldl_append]; rfl
omit hs in
theorem sign_ev : ∀ (m i : Nat), sg.length < i + m → i ≤ sg.length → sg.length ≤ 1000 → (∀ t ∈ sg, t.size ≤ 1000) →
    Ev (fun k => lsc_sign.l0 k ((Lx.signLen ((signsOf sg).take i) l : Nat) : Int) sg (sg.length : Int) (i : Int) s a km sg f) (((Lx.signLen (signsOf sg) l : Nat) : Int), s, (a : Int), km, f) := by
  have hll := len_l s a l hl
  have R := rest_eq s a km sg f ha
  have hx : bl (s.extract a s.size) = l := by rw [rest_bl s a ha, hl]
  intro m
  induction m with
  | zero => intro i h1 h2; omega
  | succ m ih =>
    intro i h1 h2 h3 h4
    rcases Nat.lt_or_ge i sg.length with hi | hi
    · have e := ih (i + 1) (by omega) (by omega) h3 h4
      have hw : wrap64 ((i : Int) + 1) = ((i + 1 : Nat) : Int) := by rw [w64 (by omega) (by omega)]; omega
      have hr : rdOf ByteArray.empty sg (i : Int) = sg[i] := by
        unfold rdOf
        rw [Int.toNat_natCast, List.getD_eq_getElem?_getD, List.getElem?_eq_getElem hi]; rfl
      have hso : i < (signsOf sg).length := by unfold signsOf; simpa using hi
      have htk : (signsOf sg).take (i + 1) = (signsOf sg).take i ++ [bl sg[i]] := by
        rw [List.take_succ_eq_append_getElem hso]
        simp [signsOf]
      rw [htk, signLen_snoc] at e
      have hbz : (bl sg[i]).length = sg[i].size := bl_length _
      refine Ev.step (f := fun k => lsc_sign.l0 k ((if Lx.signLen ((signsOf sg).take i) l < (bl sg[i]).length ∧ (bl sg[i]).isPrefixOf l = true then (bl sg[i]).length else Lx.signLen ((signsOf sg).take i) l : Nat) : Int) sg (sg.length : Int) ((i + 1 : Nat) : Int) s a km sg f) (fun k => ?_) e
      rw [lsc_sign.l0, if_pos (by omega), if_pos (by omega), if_pos (by omega), hr]
      by_cases hgt : Lx.signLen ((signsOf sg).take i) l < (bl sg[i]).length
      · rw [if_pos (by omega), R, Option.bind_some]
        dsimp only
        rw [hasPrefix_eq, Option.bind_some, hx, hw]
        by_cases hp : (bl sg[i]).isPrefixOf l = true
        · rw [if_pos hp, if_pos ⟨hgt, hp⟩, hbz]
        · rw [if_neg hp, if_neg (fun h => hp h.2)]
      · rw [if_neg (by omega), if_neg (fun h => hgt h.1), hw]
    · obtain rfl : i = sg.length := by omega
      refine Ev.step (fun k => ?_) (Ev.now _)
      rw [lsc_sign.l0, if_neg (by omega)]
      rw [List.take_of_length_le (by simp [signsOf])]
omit hs in
theorem sign_eq (h3 : sg.length ≤ 1000) (h4 : ∀ t ∈ sg, t.size ≤ 1000) :
    Ev (fun k => lsc_sign.f k s a km sg f) (((Lx.signLen (signsOf sg) l : Nat) : Int), s, (a : Int), km, f) := by
  have e := sign_ev s a ha km sg f l hl (sg.length + 1) 0 (by omega) (by omega) h3 h4
  refine Ev.congr (fun k => ?_) e
  unfold lsc_sign.f
  rfl
end
end Go.Proofs.YtabnmkakgcifoaaDoor.PLex

