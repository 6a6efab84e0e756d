/-
  No cell of these rows narrows 'for every input' (looked for: loops, veiled, ifaces, maps, wideKeys, modest, calm, conditions, laid).
  DERIVED. THE GIVEN ROWS OF THIS SEAT. 3 by the template 'for every input the law returns true; each argument reads behind the call as it read before'; 0 by the template 'total and deterministic' (their statements: YthimblhfjfngiaaTotals.lean).
  GIVEN WITH THE SEED: the statements are not yours to turn. If you find one false, say at which input.
  Laid BY PROGRAM, IN A SANDBOX (cutbox-rows.mjs): the forced cells as the released guide's own fill.sh prints them over the translation 3f8ad0647a81a37b… (all of the seat's roots in one cut). By AI agents, Wed Nov 11 2026. No macro, syntax, notation, axiom, sorry.
-/
import Derived.Test.YthimblhfjfngiaaChecked
import GoSem.Claim
import GoSem.ClaimJoined
import GoSem.ClaimMapViews
import Derived.JoinedTies
import Derived.KernelRfl
namespace Go.Proofs.Ythimblhfjfngiaa
/- THE CELL 'sum', in the pinned program and in every row, IS THE sha256 OF THE DUMP (.gsa) THAT YthimblhfjfngiaaProg.lean LOADS. Nothing in Lean hashes anything: it is a label: what it is worth is what the hold of that sum in a sandbox is worth. -/
noncomputable def Try.pinned : Pinned := { name := "ythimblhfjfngiaa", sum := "3f8ad0647a81a37b605a6dfc926042c3bf383074c39598a59dae1c4de8239bf4", checked := Try.checked }
namespace Rows
def none {H : Type} : Left H := { results := [], args := [] }

/-- 'smockinglaw25.PastThree': WHATEVER THE INPUT: true; the input reads as it did. -/
def pastThreeSpec : ChangeSpec := { name := "pastThree", fn := fun _ => fun
  | [d1, d2, d3] => { results := [.lit (.bool true)], args := [d1, d2, d3] }
  | _ => none }
def pastThreeRow : OpenClaim := { program := "ythimblhfjfngiaa", sum := "3f8ad0647a81a37b605a6dfc926042c3bf383074c39598a59dae1c4de8239bf4", func := "smocking/smockinglaw25.PastThree", spec := "pastThree", inPlace := ["internal/bytealg.IndexByteString", "internal/abi.NoEscape"], unfollowed := true, recurses := true, apart := false }
def PastThreeSaid : Prop := pastThreeRow.holds Try.pinned (OpenSpec.ofChange pastThreeSpec)

/-- ITS FALSE NEIGHBOUR: 'it returns false'. Refute it at one input. -/
def pastThreeWrong : ChangeSpec := { name := "pastThree", fn := fun _ => fun
  | [d1, d2, d3] => { results := [.lit (.bool false)], args := [d1, d2, d3] }
  | _ => none }
def PastThreeWrongFalsely : Prop := pastThreeRow.holds Try.pinned (OpenSpec.ofChange pastThreeWrong)

/-- 'smockinglaw25.PastSides': WHATEVER THE INPUT: true; the input reads as it did. -/
def pastSidesSpec : ChangeSpec := { name := "pastSides", fn := fun _ => fun
  | [d1, d2, d3] => { results := [.lit (.bool true)], args := [d1, d2, d3] }
  | _ => none }
def pastSidesRow : OpenClaim := { program := "ythimblhfjfngiaa", sum := "3f8ad0647a81a37b605a6dfc926042c3bf383074c39598a59dae1c4de8239bf4", func := "smocking/smockinglaw25.PastSides", spec := "pastSides", inPlace := ["internal/bytealg.IndexByteString", "internal/abi.NoEscape"], unfollowed := true, recurses := true, apart := false }
def PastSidesSaid : Prop := pastSidesRow.holds Try.pinned (OpenSpec.ofChange pastSidesSpec)

/-- ITS FALSE NEIGHBOUR: 'it returns false'. Refute it at one input. -/
def pastSidesWrong : ChangeSpec := { name := "pastSides", fn := fun _ => fun
  | [d1, d2, d3] => { results := [.lit (.bool false)], args := [d1, d2, d3] }
  | _ => none }
def PastSidesWrongFalsely : Prop := pastSidesRow.holds Try.pinned (OpenSpec.ofChange pastSidesWrong)

/-- 'smockinglaw25.PastKeeps': WHATEVER THE INPUT: true; the input reads as it did. -/
def pastKeepsSpec : ChangeSpec := { name := "pastKeeps", fn := fun _ => fun
  | [d1, d2] => { results := [.lit (.bool true)], args := [d1, d2] }
  | _ => none }
def pastKeepsRow : OpenClaim := { program := "ythimblhfjfngiaa", sum := "3f8ad0647a81a37b605a6dfc926042c3bf383074c39598a59dae1c4de8239bf4", func := "smocking/smockinglaw25.PastKeeps", spec := "pastKeeps", inPlace := ["internal/bytealg.IndexByteString", "internal/abi.NoEscape"], unfollowed := true, recurses := true, apart := false }
def PastKeepsSaid : Prop := pastKeepsRow.holds Try.pinned (OpenSpec.ofChange pastKeepsSpec)

/-- ITS FALSE NEIGHBOUR: 'it returns false'. Refute it at one input. -/
def pastKeepsWrong : ChangeSpec := { name := "pastKeeps", fn := fun _ => fun
  | [d1, d2] => { results := [.lit (.bool false)], args := [d1, d2] }
  | _ => none }
def PastKeepsWrongFalsely : Prop := pastKeepsRow.holds Try.pinned (OpenSpec.ofChange pastKeepsWrong)

/- THE SECOND FORM. 'bulk': how many values and letters a reading holds, each counted each time it is reached (what is shared counts as often as it is met; a slice's spare places count too). A statement '..UptoSaid' is the law's where the arguments, and the package variables that the reading takes, are together of bulk at most 1048576: NARROWER than '..Said'. Prove '..Said' where nothing that the law and all that it calls make is longer than what came in: it says more and counts as full. Else prove '..UptoSaid'. A law counts once. -/
mutual
def uptoBulk {H : Type} : DataW H → Nat
  | .lit (.string bytes) => bytes.length + 1
  | .lit _ => 1
  | .nil => 1
  | .ptr d => uptoBulk d + 1
  | .slice elems spare => uptoBulkAll elems + uptoBulkAll spare + 1
  | .agg parts => uptoBulkAll parts + 1
  | .iface _ d => uptoBulk d + 1
  | .map entries => uptoBulkEntries entries + 1
  | .held _ => 1
def uptoBulkAll {H : Type} : List (DataW H) → Nat
  | [] => 0
  | d :: r => uptoBulk d + uptoBulkAll r
def uptoBulkEntries {H : Type} : List (Lit × DataW H) → Nat
  | [] => 0
  | x :: r => uptoBulkEntry x + uptoBulkEntries r
def uptoBulkEntry {H : Type} : Lit × DataW H → Nat
  | (.string bytes, d) => bytes.length + uptoBulk d + 1
  | (_, d) => uptoBulk d + 1
 end
def uptoSmall : (H : Type) → List (DataW H) → Bool := fun _ ds => decide (uptoBulkAll ds ≤ 1048576)
def OpenSpec.upto (s : _root_.Go.ChangeSpec) : _root_.Go.OpenSpec := { _root_.Go.OpenSpec.ofChange s with cond := some uptoSmall }

/-- 'smockinglaw25.PastThree', WHERE WHAT IT READS IS OF BULK AT MOST 1048576: true; the input reads as it did. -/
def pastThreeUptoRow : OpenClaim := { program := "ythimblhfjfngiaa", sum := "3f8ad0647a81a37b605a6dfc926042c3bf383074c39598a59dae1c4de8239bf4", func := "smocking/smockinglaw25.PastThree", spec := "pastThree", inPlace := ["internal/bytealg.IndexByteString", "internal/abi.NoEscape"], unfollowed := true, recurses := true, apart := false, narrowed := true }
def PastThreeUptoSaid : Prop := pastThreeUptoRow.holds Try.pinned (OpenSpec.upto pastThreeSpec)

/-- 'smockinglaw25.PastSides', WHERE WHAT IT READS IS OF BULK AT MOST 1048576: true; the input reads as it did. -/
def pastSidesUptoRow : OpenClaim := { program := "ythimblhfjfngiaa", sum := "3f8ad0647a81a37b605a6dfc926042c3bf383074c39598a59dae1c4de8239bf4", func := "smocking/smockinglaw25.PastSides", spec := "pastSides", inPlace := ["internal/bytealg.IndexByteString", "internal/abi.NoEscape"], unfollowed := true, recurses := true, apart := false, narrowed := true }
def PastSidesUptoSaid : Prop := pastSidesUptoRow.holds Try.pinned (OpenSpec.upto pastSidesSpec)

/-- 'smockinglaw25.PastKeeps', WHERE WHAT IT READS IS OF BULK AT MOST 1048576: true; the input reads as it did. -/
def pastKeepsUptoRow : OpenClaim := { program := "ythimblhfjfngiaa", sum := "3f8ad0647a81a37b605a6dfc926042c3bf383074c39598a59dae1c4de8239bf4", func := "smocking/smockinglaw25.PastKeeps", spec := "pastKeeps", inPlace := ["internal/bytealg.IndexByteString", "internal/abi.NoEscape"], unfollowed := true, recurses := true, apart := false, narrowed := true }
def PastKeepsUptoSaid : Prop := pastKeepsUptoRow.holds Try.pinned (OpenSpec.upto pastKeepsSpec)

end Rows
end Go.Proofs.Ythimblhfjfngiaa
