/-
  DERIVED. GIVEN WITH THE SEED: THE CARDS: each row of YtkmleeeekbdomaaGreatDoorRows.lean that lists a variable, with what it lists TIED to the program's text (the seventh form; the later family's looks); each row that meets fmt, with fmt's text TOLD by the authors' own Lean function (tested against real Go, not proved from fmt's source: count such statements apart). THE CARD IS WHAT COUNTS. Prove the row's statement (the work); the ties are given (YtkmleeeekbdomaaGreatDoorTie.lean); close each card by the builder's one call (the guide's Derived/Test/ToyasCard.lean, 'card_holds'). Laid BY PROGRAM, IN A SANDBOX (cutbox-door.mjs). By AI agents, Wed Nov 11 2026. No macro, syntax, notation, axiom, sorry.
-/
import Derived.Test.YtkmleeeekbdomaaGreatDoorRows
import GoSem.ClaimSeven
namespace Go.Proofs.YtkmleeeekbdomaaGreatDoor
namespace Rows

/-- THE TIED CARD OF 'gnomonlaw20.RunSames'. -/
def runSamesCard : Claim7 := { stood := { row := runSamesRow, standIns := [], harness := (true, "eee0d4a54bde85b02fef7ff0d24a8443b863ff3b6de0f6187455180c26fcce66"), looks := false }, kinds := [], alts := [], laidByText := true, laidKinds := [.data, .data, .data, .data, .widerDeep], laidTests := true, laidLooks := .later }
def RunSamesCardSaid : Prop := Claim7.holds Tryz.pinned (.plain (OpenSpec.ofChange runSamesSpec)) runSamesCard

/-- THE TIED CARD OF 'gnomonlaw20.RunParts'. -/
def runPartsCard : Claim7 := { stood := { row := runPartsRow, standIns := [], harness := (true, "eee0d4a54bde85b02fef7ff0d24a8443b863ff3b6de0f6187455180c26fcce66"), looks := false }, kinds := [], alts := [], laidByText := true, laidKinds := [.data, .data, .data, .data, .widerDeep], laidTests := true, laidLooks := .later }
def RunPartsCardSaid : Prop := Claim7.holds Tryz.pinned (.plain (OpenSpec.ofChange runPartsSpec)) runPartsCard

/-- THE SECOND FORM's CARD OF 'gnomonlaw20.RunSames'. -/
def runSamesUptoCard : Claim7 := { stood := { row := runSamesUptoRow, standIns := [], harness := (true, "eee0d4a54bde85b02fef7ff0d24a8443b863ff3b6de0f6187455180c26fcce66"), looks := false }, kinds := [], alts := [], laidByText := true, laidKinds := [.data, .data, .data, .data, .widerDeep], laidTests := true, laidLooks := .later }
def RunSamesUptoCardSaid : Prop := Claim7.holds Tryz.pinned (.plain (OpenSpec.upto runSamesSpec)) runSamesUptoCard

/-- THE SECOND FORM's CARD OF 'gnomonlaw20.RunParts'. -/
def runPartsUptoCard : Claim7 := { stood := { row := runPartsUptoRow, standIns := [], harness := (true, "eee0d4a54bde85b02fef7ff0d24a8443b863ff3b6de0f6187455180c26fcce66"), looks := false }, kinds := [], alts := [], laidByText := true, laidKinds := [.data, .data, .data, .data, .widerDeep], laidTests := true, laidLooks := .later }
def RunPartsUptoCardSaid : Prop := Claim7.holds Tryz.pinned (.plain (OpenSpec.upto runPartsSpec)) runPartsUptoCard
end Rows
end Go.Proofs.YtkmleeeekbdomaaGreatDoor
