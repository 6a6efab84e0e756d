/-
  DERIVED. GIVEN WITH THE SEED: THE CARDS: each row of YthimblhfjfngiaaDoorRows.lean that lists a variable, with what it lists TIED to the program's text (the seventh form; the later family's looks); each row that meets fmt, with fmt's text TOLD by the authors' own Lean function (tested against real Go, not proved from fmt's source: count such statements apart). THE CARD IS WHAT COUNTS. Prove the row's statement (the work); the ties are given (YthimblhfjfngiaaDoorTie.lean); close each card by the builder's one call (the guide's Derived/Test/ToyasCard.lean, 'card_holds'). Laid BY PROGRAM, IN A SANDBOX (cutbox-door.mjs). By AI agents, Wed Nov 11 2026. No macro, syntax, notation, axiom, sorry.
-/
import Derived.Test.YthimblhfjfngiaaDoorRows
import GoSem.ClaimSeven
namespace Go.Proofs.YthimblhfjfngiaaDoor
namespace Rows

/-- THE TIED CARD OF 'smockinglaw01.TextEdits'. -/
def textEditsCard : Claim7 := { stood := { row := textEditsRow, standIns := [], harness := (true, "fb57f0aaaeba4721efeff374dd5a11b08cd9e0fb516b971e21a514c4fd4618d9"), looks := false }, kinds := [], alts := [], laidByText := true, laidKinds := [.data, .data, .data], laidTests := true, laidLooks := .later }
def TextEditsCardSaid : Prop := Claim7.holds Tryd.pinned (.plain (OpenSpec.ofChange textEditsSpec)) textEditsCard

/-- THE TIED CARD OF 'smockinglaw01.TextBack'. -/
def textBackCard : Claim7 := { stood := { row := textBackRow, standIns := [], harness := (true, "fb57f0aaaeba4721efeff374dd5a11b08cd9e0fb516b971e21a514c4fd4618d9"), looks := false }, kinds := [], alts := [], laidByText := true, laidKinds := [.data, .data, .data], laidTests := true, laidLooks := .later }
def TextBackCardSaid : Prop := Claim7.holds Tryd.pinned (.plain (OpenSpec.ofChange textBackSpec)) textBackCard

/-- THE TIED CARD OF 'smockinglaw01.TextDiffs'. -/
def textDiffsCard : Claim7 := { stood := { row := textDiffsRow, standIns := [], harness := (true, "fb57f0aaaeba4721efeff374dd5a11b08cd9e0fb516b971e21a514c4fd4618d9"), looks := false }, kinds := [], alts := [], laidByText := true, laidKinds := [.data, .data, .data], laidTests := true, laidLooks := .later }
def TextDiffsCardSaid : Prop := Claim7.holds Tryd.pinned (.plain (OpenSpec.ofChange textDiffsSpec)) textDiffsCard

/-- THE TIED CARD OF 'smockinglaw01.TextMerges'. -/
def textMergesCard : Claim7 := { stood := { row := textMergesRow, standIns := [], harness := (true, "fb57f0aaaeba4721efeff374dd5a11b08cd9e0fb516b971e21a514c4fd4618d9"), looks := false }, kinds := [], alts := [], laidByText := true, laidKinds := [.data, .data, .data], laidTests := true, laidLooks := .later }
def TextMergesCardSaid : Prop := Claim7.holds Tryd.pinned (.plain (OpenSpec.ofChange textMergesSpec)) textMergesCard

/-- THE TIED CARD OF 'smockinglaw01.TextOver'. -/
def textOverCard : Claim7 := { stood := { row := textOverRow, standIns := [], harness := (true, "fb57f0aaaeba4721efeff374dd5a11b08cd9e0fb516b971e21a514c4fd4618d9"), looks := false }, kinds := [], alts := [], laidByText := true, laidKinds := [.data, .data, .data], laidTests := true, laidLooks := .later }
def TextOverCardSaid : Prop := Claim7.holds Tryd.pinned (.plain (OpenSpec.ofChange textOverSpec)) textOverCard

/-- THE TIED CARD OF 'smockinglaw01.TextLines'. -/
def textLinesCard : Claim7 := { stood := { row := textLinesRow, standIns := [], harness := (true, "fb57f0aaaeba4721efeff374dd5a11b08cd9e0fb516b971e21a514c4fd4618d9"), looks := false }, kinds := [], alts := [], laidByText := true, laidKinds := [.data, .data, .data], laidTests := true, laidLooks := .later }
def TextLinesCardSaid : Prop := Claim7.holds Tryd.pinned (.plain (OpenSpec.ofChange textLinesSpec)) textLinesCard

/-- THE SECOND FORM's CARD OF 'smockinglaw01.TextEdits'. -/
def textEditsUptoCard : Claim7 := { stood := { row := textEditsUptoRow, standIns := [], harness := (true, "fb57f0aaaeba4721efeff374dd5a11b08cd9e0fb516b971e21a514c4fd4618d9"), looks := false }, kinds := [], alts := [], laidByText := true, laidKinds := [.data, .data, .data], laidTests := true, laidLooks := .later }
def TextEditsUptoCardSaid : Prop := Claim7.holds Tryd.pinned (.plain (OpenSpec.upto textEditsSpec)) textEditsUptoCard

/-- THE SECOND FORM's CARD OF 'smockinglaw01.TextBack'. -/
def textBackUptoCard : Claim7 := { stood := { row := textBackUptoRow, standIns := [], harness := (true, "fb57f0aaaeba4721efeff374dd5a11b08cd9e0fb516b971e21a514c4fd4618d9"), looks := false }, kinds := [], alts := [], laidByText := true, laidKinds := [.data, .data, .data], laidTests := true, laidLooks := .later }
def TextBackUptoCardSaid : Prop := Claim7.holds Tryd.pinned (.plain (OpenSpec.upto textBackSpec)) textBackUptoCard

/-- THE SECOND FORM's CARD OF 'smockinglaw01.TextDiffs'. -/
def textDiffsUptoCard : Claim7 := { stood := { row := textDiffsUptoRow, standIns := [], harness := (true, "fb57f0aaaeba4721efeff374dd5a11b08cd9e0fb516b971e21a514c4fd4618d9"), looks := false }, kinds := [], alts := [], laidByText := true, laidKinds := [.data, .data, .data], laidTests := true, laidLooks := .later }
def TextDiffsUptoCardSaid : Prop := Claim7.holds Tryd.pinned (.plain (OpenSpec.upto textDiffsSpec)) textDiffsUptoCard

/-- THE SECOND FORM's CARD OF 'smockinglaw01.TextMerges'. -/
def textMergesUptoCard : Claim7 := { stood := { row := textMergesUptoRow, standIns := [], harness := (true, "fb57f0aaaeba4721efeff374dd5a11b08cd9e0fb516b971e21a514c4fd4618d9"), looks := false }, kinds := [], alts := [], laidByText := true, laidKinds := [.data, .data, .data], laidTests := true, laidLooks := .later }
def TextMergesUptoCardSaid : Prop := Claim7.holds Tryd.pinned (.plain (OpenSpec.upto textMergesSpec)) textMergesUptoCard

/-- THE SECOND FORM's CARD OF 'smockinglaw01.TextOver'. -/
def textOverUptoCard : Claim7 := { stood := { row := textOverUptoRow, standIns := [], harness := (true, "fb57f0aaaeba4721efeff374dd5a11b08cd9e0fb516b971e21a514c4fd4618d9"), looks := false }, kinds := [], alts := [], laidByText := true, laidKinds := [.data, .data, .data], laidTests := true, laidLooks := .later }
def TextOverUptoCardSaid : Prop := Claim7.holds Tryd.pinned (.plain (OpenSpec.upto textOverSpec)) textOverUptoCard

/-- THE SECOND FORM's CARD OF 'smockinglaw01.TextLines'. -/
def textLinesUptoCard : Claim7 := { stood := { row := textLinesUptoRow, standIns := [], harness := (true, "fb57f0aaaeba4721efeff374dd5a11b08cd9e0fb516b971e21a514c4fd4618d9"), looks := false }, kinds := [], alts := [], laidByText := true, laidKinds := [.data, .data, .data], laidTests := true, laidLooks := .later }
def TextLinesUptoCardSaid : Prop := Claim7.holds Tryd.pinned (.plain (OpenSpec.upto textLinesSpec)) textLinesUptoCard
end Rows
end Go.Proofs.YthimblhfjfngiaaDoor
