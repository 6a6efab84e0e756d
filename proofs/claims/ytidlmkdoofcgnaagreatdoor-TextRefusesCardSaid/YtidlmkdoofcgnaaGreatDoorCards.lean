/-
  DERIVED. GIVEN WITH THE SEED: THE CARDS: each row of YtidlmkdoofcgnaaGreatDoorRows.lean that lists a variable, with what it lists TIED to the program's text (the seventh form; the later family's looks); each row that meets fmt, with fmt's text TOLD by the authors' own Lean function (tested against real Go, not proved from fmt's source: count such statements apart). THE CARD IS WHAT COUNTS. Prove the row's statement (the work); the ties are given (YtidlmkdoofcgnaaGreatDoorTie.lean); close each card by the builder's one call (the guide's Derived/Test/ToyasCard.lean, 'card_holds'). Laid BY PROGRAM, IN A SANDBOX (cutbox-door.mjs). By AI agents, Wed Nov 11 2026. No macro, syntax, notation, axiom, sorry.
-/
import Derived.Test.YtidlmkdoofcgnaaGreatDoorRows
import GoSem.ClaimSeven
namespace Go.Proofs.YtidlmkdoofcgnaaGreatDoor
namespace Rows

/-- THE TIED CARD OF 'smockinglaw02.LexRescans'. -/
def lexRescansCard : Claim7 := { stood := { row := lexRescansRow, standIns := [], harness := (true, "36c4695de7d6df49aa8bd7cb773439aa8199c6144a1f1b4b4911f8a2727a5947"), looks := true }, kinds := [], alts := [], laidByText := true, laidKinds := [.listed, .data], laidTests := true, laidLooks := .later }
def LexRescansCardSaid : Prop := Claim7.holds Tryz.pinned (.plain (OpenSpec.ofChange lexRescansSpec)) lexRescansCard

/-- THE TIED CARD OF 'smockinglaw01.TextPatches'. -/
def textPatchesCard : Claim7 := { stood := { row := textPatchesRow, standIns := [], harness := (true, "36c4695de7d6df49aa8bd7cb773439aa8199c6144a1f1b4b4911f8a2727a5947"), looks := true }, kinds := [], alts := [], laidByText := true, laidKinds := [.data, .data, .data, .data, .sentinel, .sentinel, .pinned], laidTests := true, laidLooks := .later }
def TextPatchesCardSaid : Prop := Claim7.holds Tryz.pinned (.plain (OpenSpec.ofChange textPatchesSpec)) textPatchesCard

/-- THE TIED CARD OF 'smockinglaw01.TextRefuses'. -/
def textRefusesCard : Claim7 := { stood := { row := textRefusesRow, standIns := [], harness := (true, "36c4695de7d6df49aa8bd7cb773439aa8199c6144a1f1b4b4911f8a2727a5947"), looks := true }, kinds := [], alts := [], laidByText := true, laidKinds := [.data, .data, .data, .data, .sentinel, .sentinel, .pinned], laidTests := true, laidLooks := .later }
def TextRefusesCardSaid : Prop := Claim7.holds Tryz.pinned (.plain (OpenSpec.ofChange textRefusesSpec)) textRefusesCard

/-- THE TIED CARD OF 'smockinglaw01.TextRounds'. -/
def textRoundsCard : Claim7 := { stood := { row := textRoundsRow, standIns := [], harness := (true, "36c4695de7d6df49aa8bd7cb773439aa8199c6144a1f1b4b4911f8a2727a5947"), looks := true }, kinds := [], alts := [], laidByText := true, laidKinds := [.data, .data, .data, .data, .sentinel, .sentinel, .pinned], laidTests := true, laidLooks := .later }
def TextRoundsCardSaid : Prop := Claim7.holds Tryz.pinned (.plain (OpenSpec.ofChange textRoundsSpec)) textRoundsCard

/-- THE SECOND FORM's CARD OF 'smockinglaw02.LexRescans'. -/
def lexRescansUptoCard : Claim7 := { stood := { row := lexRescansUptoRow, standIns := [], harness := (true, "36c4695de7d6df49aa8bd7cb773439aa8199c6144a1f1b4b4911f8a2727a5947"), looks := true }, kinds := [], alts := [], laidByText := true, laidKinds := [.listed, .data], laidTests := true, laidLooks := .later }
def LexRescansUptoCardSaid : Prop := Claim7.holds Tryz.pinned (.plain (OpenSpec.upto lexRescansSpec)) lexRescansUptoCard

/-- THE SECOND FORM's CARD OF 'smockinglaw01.TextPatches'. -/
def textPatchesUptoCard : Claim7 := { stood := { row := textPatchesUptoRow, standIns := [], harness := (true, "36c4695de7d6df49aa8bd7cb773439aa8199c6144a1f1b4b4911f8a2727a5947"), looks := true }, kinds := [], alts := [], laidByText := true, laidKinds := [.data, .data, .data, .data, .sentinel, .sentinel, .pinned], laidTests := true, laidLooks := .later }
def TextPatchesUptoCardSaid : Prop := Claim7.holds Tryz.pinned (.plain (OpenSpec.upto textPatchesSpec)) textPatchesUptoCard

/-- THE SECOND FORM's CARD OF 'smockinglaw01.TextRefuses'. -/
def textRefusesUptoCard : Claim7 := { stood := { row := textRefusesUptoRow, standIns := [], harness := (true, "36c4695de7d6df49aa8bd7cb773439aa8199c6144a1f1b4b4911f8a2727a5947"), looks := true }, kinds := [], alts := [], laidByText := true, laidKinds := [.data, .data, .data, .data, .sentinel, .sentinel, .pinned], laidTests := true, laidLooks := .later }
def TextRefusesUptoCardSaid : Prop := Claim7.holds Tryz.pinned (.plain (OpenSpec.upto textRefusesSpec)) textRefusesUptoCard

/-- THE SECOND FORM's CARD OF 'smockinglaw01.TextRounds'. -/
def textRoundsUptoCard : Claim7 := { stood := { row := textRoundsUptoRow, standIns := [], harness := (true, "36c4695de7d6df49aa8bd7cb773439aa8199c6144a1f1b4b4911f8a2727a5947"), looks := true }, kinds := [], alts := [], laidByText := true, laidKinds := [.data, .data, .data, .data, .sentinel, .sentinel, .pinned], laidTests := true, laidLooks := .later }
def TextRoundsUptoCardSaid : Prop := Claim7.holds Tryz.pinned (.plain (OpenSpec.upto textRoundsSpec)) textRoundsUptoCard
end Rows
end Go.Proofs.YtidlmkdoofcgnaaGreatDoor
