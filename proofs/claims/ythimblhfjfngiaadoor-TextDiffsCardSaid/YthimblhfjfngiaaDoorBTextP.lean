/- Chapter 01: what the claims share. Part 16 of 24. -/
import Derived.Test.YthimblhfjfngiaaDoorBTextO
import Derived.Test.YthimblhfjfngiaaDoorCards
import Derived.Test.YthimblhfjfngiaaDoorTie
import Derived.ProofKit
import Derived.OpenShut
import Derived.ShutString
import Derived.SizedLaws
import Derived.Deep.DeepHandedRow
import Derived.Deep.DeepWitnessRowRef
import Derived.Lib.LaidU8
import Derived.Stop.LaidErr
namespace Go.Proofs.YthimblhfjfngiaaDoor.Row0
open Go.ChangeShapes Go.WideShapes Go.ChangeAt Go.RowKit
theorem own : ownKnob Tryd.prog.godebug = none := by kernel_rfl
abbrev laid : List (String × DataW Unit) := [("math/bits.deBruijn32tab", Rows.laid_math_bits_deBruijn32tab), ("math/bits.deBruijn64tab", Rows.laid_math_bits_deBruijn64tab), ("internal/strconv.uint64pow10", Rows.laid_internal_strconv_uint64pow10)]
/-- the integers that a table's datum tells, as cells -/
def cellsOfTab : DataW Unit → Array Value
  | .agg parts => (parts.map fun
    | .lit (.int k n) => Value.int k n
    | _ => Value.int .i64 0).toArray
  | _ => #[]
/-- a start: the settled world, the three variables holding what their initialisers lay -/
noncomputable def laidWorld (os : Os) : World :=
  let w0 := World.holding Tryd.prog os ⟨#[], #[], []⟩
  let put (h : Array Obj) (g : Nat) (cs : Array Value) : Array Obj := h.modify g fun
    | .cells _ t frozen => .cells cs t frozen
    | o => o
  let h1 := put w0.heap 1 (cellsOfTab Rows.laid_internal_strconv_uint64pow10)
  let h2 := put h1 2 (cellsOfTab Rows.laid_math_bits_deBruijn32tab)
  let h3 := put h2 3 (cellsOfTab Rows.laid_math_bits_deBruijn64tab)
  { w0 with heap := h3 }
theorem laid_met (os : Os) (args : Array Value) : laidMet Tryd.prog laid ((laidWorld os).forCall (fun _ _ => 0) ⟨#[], args, []⟩).memory :=
  laidMet_of_run' 10 (by kernel_rfl) (by kernel_rfl)
theorem laidOut : laidOutB Tryd.prog = true := by kernel_rfl
theorem gPowType : (Tryd.prog.globals[1]?).map (·.type) = some 143 := by kernel_rfl
theorem cells143 : Tryd.prog.cellsOf 143 = 20 := by kernel_rfl
theorem cells108 : Tryd.prog.cellsOf 124 = 1 := by kernel_rfl
set_option maxRecDepth 100000 in
theorem powData : Rows.laid_internal_strconv_uint64pow10 (H := Unit) = Lib.tabData .u64 Lib.pow10Tab := by kernel_rfl
theorem var_lt {P : Program} {W : World} {name : String} {g : Nat} {x : Array Value} (hg : P.globalNamed name = some g) (h : W.var? P name = some x) : g < W.heap.size := by
  unfold World.var? at h
  rw [hg] at h
  rcases Nat.lt_or_ge g W.heap.size with q | q
  · exact q
  · simp [Array.getElem?_eq_none q] at h
/-- what the walks need of the package variables -/
theorem glob {W : World} (hL : laidMetH Tryd.prog laid W) : Glob W := by
  have hL1 : laidMet Tryd.prog laid W := hL
  have h2 := laidMet.tail (laidMet.tail hL1)
  rw [powData] at h2
  have h3 := Lib.tabIs_of_head (rest := []) gPow gPowType Tryd.underlying143 Tryd.underlying124 cells108 cells143 h2
  exact ⟨var_lt gPow h3, h3⟩
end Go.Proofs.YthimblhfjfngiaaDoor.Row0

