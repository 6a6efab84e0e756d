/-
  No cell of these rows narrows 'for every input' (looked for: loops, veiled, ifaces, maps, wideKeys, modest, calm, conditions, laid).
  DERIVED. THE GIVEN ROWS OF THIS SEAT. 4 by the template 'for every input the law returns true; each argument reads behind the call as it read before'; 0 by the template 'total and deterministic' (their statements: YthimblhfjfngiaaGreatTotals.lean).
  GIVEN WITH THE SEED: the statements are not yours to turn. If you find one false, say at which input.
  Laid BY PROGRAM, IN A SANDBOX (cutbox-rows.mjs): the forced cells as the released guide's own fill.sh prints them over the translation 5af3c70164ef918e… (all of the seat's roots in one cut). By AI agents, Wed Nov 11 2026. No macro, syntax, notation, axiom, sorry.
-/
import Derived.Test.YthimblhfjfngiaaGreatChecked
import GoSem.Claim
import GoSem.ClaimJoined
import GoSem.ClaimMapViews
import Derived.JoinedTies
import Derived.KernelRfl
namespace Go.Proofs.YthimblhfjfngiaaGreat
/- THE CELL 'sum', in the pinned program and in every row, IS THE sha256 OF THE DUMP (.gsa) THAT YthimblhfjfngiaaGreatProg.lean LOADS. Nothing in Lean hashes anything: it is a label: what it is worth is what the hold of that sum in a sandbox is worth. -/
noncomputable def Tryz.pinned : Pinned := { name := "ythimblhfjfngiaagreat", sum := "5af3c70164ef918ee6ef4faf9598bb7133f87631ff98e5df96ceeac851b87b7c", checked := Tryz.checked }
namespace Rows
def none {H : Type} : Left H := { results := [], args := [] }

/-- 'smockinglaw25.PastBlames': WHATEVER THE INPUT: true; the input reads as it did. -/
def pastBlamesSpec : ChangeSpec := { name := "pastBlames", fn := fun _ => fun
  | [d1, d2, d3] => { results := [.lit (.bool true)], args := [d1, d2, d3] }
  | _ => none }
def pastBlamesRow : OpenClaim := { program := "ythimblhfjfngiaagreat", sum := "5af3c70164ef918ee6ef4faf9598bb7133f87631ff98e5df96ceeac851b87b7c", func := "smocking/smockinglaw25.PastBlames", spec := "pastBlames", inPlace := ["internal/bytealg.IndexByteString", "internal/abi.NoEscape"], unfollowed := true, recurses := true, apart := false }
def PastBlamesSaid : Prop := pastBlamesRow.holds Tryz.pinned (OpenSpec.ofChange pastBlamesSpec)

/-- ITS FALSE NEIGHBOUR: 'it returns false'. Refute it at one input. -/
def pastBlamesWrong : ChangeSpec := { name := "pastBlames", fn := fun _ => fun
  | [d1, d2, d3] => { results := [.lit (.bool false)], args := [d1, d2, d3] }
  | _ => none }
def PastBlamesWrongFalsely : Prop := pastBlamesRow.holds Tryz.pinned (OpenSpec.ofChange pastBlamesWrong)

/-- 'smockinglaw25.PastRebases': WHATEVER THE INPUT: true; the input reads as it did. -/
def pastRebasesSpec : ChangeSpec := { name := "pastRebases", fn := fun _ => fun
  | [d1, d2, d3] => { results := [.lit (.bool true)], args := [d1, d2, d3] }
  | _ => none }
def pastRebasesRow : OpenClaim := { program := "ythimblhfjfngiaagreat", sum := "5af3c70164ef918ee6ef4faf9598bb7133f87631ff98e5df96ceeac851b87b7c", func := "smocking/smockinglaw25.PastRebases", spec := "pastRebases", inPlace := ["internal/bytealg.IndexByteString", "internal/abi.NoEscape"], unfollowed := true, recurses := true, apart := false }
def PastRebasesSaid : Prop := pastRebasesRow.holds Tryz.pinned (OpenSpec.ofChange pastRebasesSpec)

/-- ITS FALSE NEIGHBOUR: 'it returns false'. Refute it at one input. -/
def pastRebasesWrong : ChangeSpec := { name := "pastRebases", fn := fun _ => fun
  | [d1, d2, d3] => { results := [.lit (.bool false)], args := [d1, d2, d3] }
  | _ => none }
def PastRebasesWrongFalsely : Prop := pastRebasesRow.holds Tryz.pinned (OpenSpec.ofChange pastRebasesWrong)

/-- 'smockinglaw25.PastCommits': WHATEVER THE INPUT: true; the input reads as it did. -/
def pastCommitsSpec : ChangeSpec := { name := "pastCommits", fn := fun _ => fun
  | [d1, d2] => { results := [.lit (.bool true)], args := [d1, d2] }
  | _ => none }
def pastCommitsRow : OpenClaim := { program := "ythimblhfjfngiaagreat", sum := "5af3c70164ef918ee6ef4faf9598bb7133f87631ff98e5df96ceeac851b87b7c", func := "smocking/smockinglaw25.PastCommits", spec := "pastCommits", inPlace := ["internal/bytealg.IndexByteString", "internal/abi.NoEscape"], unfollowed := true, recurses := true, apart := false }
def PastCommitsSaid : Prop := pastCommitsRow.holds Tryz.pinned (OpenSpec.ofChange pastCommitsSpec)

/-- ITS FALSE NEIGHBOUR: 'it returns false'. Refute it at one input. -/
def pastCommitsWrong : ChangeSpec := { name := "pastCommits", fn := fun _ => fun
  | [d1, d2] => { results := [.lit (.bool false)], args := [d1, d2] }
  | _ => none }
def PastCommitsWrongFalsely : Prop := pastCommitsRow.holds Tryz.pinned (OpenSpec.ofChange pastCommitsWrong)

/-- 'smockinglaw25.PastNil': WHATEVER THE INPUT: true; the input reads as it did. -/
def pastNilSpec : ChangeSpec := { name := "pastNil", fn := fun _ => fun
  | [d1, d2] => { results := [.lit (.bool true)], args := [d1, d2] }
  | _ => none }
def pastNilRow : OpenClaim := { program := "ythimblhfjfngiaagreat", sum := "5af3c70164ef918ee6ef4faf9598bb7133f87631ff98e5df96ceeac851b87b7c", func := "smocking/smockinglaw25.PastNil", spec := "pastNil", inPlace := ["internal/bytealg.IndexByteString", "internal/abi.NoEscape"], unfollowed := true, recurses := true, apart := false }
def PastNilSaid : Prop := pastNilRow.holds Tryz.pinned (OpenSpec.ofChange pastNilSpec)

/-- ITS FALSE NEIGHBOUR: 'it returns false'. Refute it at one input. -/
def pastNilWrong : ChangeSpec := { name := "pastNil", fn := fun _ => fun
  | [d1, d2] => { results := [.lit (.bool false)], args := [d1, d2] }
  | _ => none }
def PastNilWrongFalsely : Prop := pastNilRow.holds Tryz.pinned (OpenSpec.ofChange pastNilWrong)

/- THE SECOND FORM. 'bulk': how many values and letters a reading holds, each counted each time it is reached (what is shared counts as often as it is met; a slice's spare places count too). A statement '..UptoSaid' is the law's where the arguments, and the package variables that the reading takes, are together of bulk at most 1048576: NARROWER than '..Said'. Prove '..Said' where nothing that the law and all that it calls make is longer than what came in: it says more and counts as full. Else prove '..UptoSaid'. A law counts once. -/
mutual
def uptoBulk {H : Type} : DataW H → Nat
  | .lit (.string bytes) => bytes.length + 1
  | .lit _ => 1
  | .nil => 1
  | .ptr d => uptoBulk d + 1
  | .slice elems spare => uptoBulkAll elems + uptoBulkAll spare + 1
  | .agg parts => uptoBulkAll parts + 1
  | .iface _ d => uptoBulk d + 1
  | .map entries => uptoBulkEntries entries + 1
  | .held _ => 1
def uptoBulkAll {H : Type} : List (DataW H) → Nat
  | [] => 0
  | d :: r => uptoBulk d + uptoBulkAll r
def uptoBulkEntries {H : Type} : List (Lit × DataW H) → Nat
  | [] => 0
  | x :: r => uptoBulkEntry x + uptoBulkEntries r
def uptoBulkEntry {H : Type} : Lit × DataW H → Nat
  | (.string bytes, d) => bytes.length + uptoBulk d + 1
  | (_, d) => uptoBulk d + 1
 end
def uptoSmall : (H : Type) → List (DataW H) → Bool := fun _ ds => decide (uptoBulkAll ds ≤ 1048576)
def OpenSpec.upto (s : _root_.Go.ChangeSpec) : _root_.Go.OpenSpec := { _root_.Go.OpenSpec.ofChange s with cond := some uptoSmall }

/-- 'smockinglaw25.PastBlames', WHERE WHAT IT READS IS OF BULK AT MOST 1048576: true; the input reads as it did. -/
def pastBlamesUptoRow : OpenClaim := { program := "ythimblhfjfngiaagreat", sum := "5af3c70164ef918ee6ef4faf9598bb7133f87631ff98e5df96ceeac851b87b7c", func := "smocking/smockinglaw25.PastBlames", spec := "pastBlames", inPlace := ["internal/bytealg.IndexByteString", "internal/abi.NoEscape"], unfollowed := true, recurses := true, apart := false, narrowed := true }
def PastBlamesUptoSaid : Prop := pastBlamesUptoRow.holds Tryz.pinned (OpenSpec.upto pastBlamesSpec)

/-- 'smockinglaw25.PastRebases', WHERE WHAT IT READS IS OF BULK AT MOST 1048576: true; the input reads as it did. -/
def pastRebasesUptoRow : OpenClaim := { program := "ythimblhfjfngiaagreat", sum := "5af3c70164ef918ee6ef4faf9598bb7133f87631ff98e5df96ceeac851b87b7c", func := "smocking/smockinglaw25.PastRebases", spec := "pastRebases", inPlace := ["internal/bytealg.IndexByteString", "internal/abi.NoEscape"], unfollowed := true, recurses := true, apart := false, narrowed := true }
def PastRebasesUptoSaid : Prop := pastRebasesUptoRow.holds Tryz.pinned (OpenSpec.upto pastRebasesSpec)

/-- 'smockinglaw25.PastCommits', WHERE WHAT IT READS IS OF BULK AT MOST 1048576: true; the input reads as it did. -/
def pastCommitsUptoRow : OpenClaim := { program := "ythimblhfjfngiaagreat", sum := "5af3c70164ef918ee6ef4faf9598bb7133f87631ff98e5df96ceeac851b87b7c", func := "smocking/smockinglaw25.PastCommits", spec := "pastCommits", inPlace := ["internal/bytealg.IndexByteString", "internal/abi.NoEscape"], unfollowed := true, recurses := true, apart := false, narrowed := true }
def PastCommitsUptoSaid : Prop := pastCommitsUptoRow.holds Tryz.pinned (OpenSpec.upto pastCommitsSpec)

/-- 'smockinglaw25.PastNil', WHERE WHAT IT READS IS OF BULK AT MOST 1048576: true; the input reads as it did. -/
def pastNilUptoRow : OpenClaim := { program := "ythimblhfjfngiaagreat", sum := "5af3c70164ef918ee6ef4faf9598bb7133f87631ff98e5df96ceeac851b87b7c", func := "smocking/smockinglaw25.PastNil", spec := "pastNil", inPlace := ["internal/bytealg.IndexByteString", "internal/abi.NoEscape"], unfollowed := true, recurses := true, apart := false, narrowed := true }
def PastNilUptoSaid : Prop := pastNilUptoRow.holds Tryz.pinned (OpenSpec.upto pastNilSpec)

end Rows
end Go.Proofs.YthimblhfjfngiaaGreat
