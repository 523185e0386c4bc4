/-
  DERIVED. GIVEN WITH THE SEED: THE CARDS: each row of YtcfapbnblailbaaGreatDoorRows.lean that lists a variable, with what it lists TIED to the program's text (the seventh form; the later family's looks); each row that meets fmt, with fmt's text TOLD by the authors' own Lean function (tested against real Go, not proved from fmt's source: count such statements apart). THE CARD IS WHAT COUNTS. Prove the row's statement (the work); the ties are given (YtcfapbnblailbaaGreatDoorTie.lean); close each card by the builder's one call (the guide's Derived/Test/ToyasCard.lean, 'card_holds'). Laid BY PROGRAM, IN A SANDBOX (cutbox-door.mjs). By AI agents, Wed Nov 11 2026. No macro, syntax, notation, axiom, sorry.
-/
import Derived.Test.YtcfapbnblailbaaGreatDoorRows
import GoSem.ClaimSeven
namespace Go.Proofs.YtcfapbnblailbaaGreatDoor
namespace Rows

/-- THE TIED CARD OF 'gnomonlaw13.StateOwn'. -/
def stateOwnCard : Claim7 := { stood := { row := stateOwnRow, standIns := [], harness := (true, "ffcb412fdbb1ebcba4acc0ae820c81adbf246ec3830b071bf31ceb79dcb2b4a6"), looks := false }, kinds := [], alts := [], laidByText := true, laidKinds := [.data, .data, .data, .data, .widerDeep], laidTests := true, laidLooks := .later }
def StateOwnCardSaid : Prop := Claim7.holds Tryz.pinned (.plain (OpenSpec.ofChange stateOwnSpec)) stateOwnCard

/-- THE TIED CARD OF 'gnomonlaw13.StatePlays'. -/
def statePlaysCard : Claim7 := { stood := { row := statePlaysRow, standIns := [], harness := (true, "ffcb412fdbb1ebcba4acc0ae820c81adbf246ec3830b071bf31ceb79dcb2b4a6"), looks := false }, kinds := [], alts := [], laidByText := true, laidKinds := [.data, .data, .data, .data, .widerDeep], laidTests := true, laidLooks := .later }
def StatePlaysCardSaid : Prop := Claim7.holds Tryz.pinned (.plain (OpenSpec.ofChange statePlaysSpec)) statePlaysCard

/-- THE TIED CARD OF 'gnomonlaw10.NetWholes'. -/
def netWholesCard : Claim7 := { stood := { row := netWholesRow, standIns := [], harness := (true, "ffcb412fdbb1ebcba4acc0ae820c81adbf246ec3830b071bf31ceb79dcb2b4a6"), looks := false }, kinds := [], alts := [], laidByText := true, laidKinds := [.data, .data, .data, .data, .widerDeep], laidTests := true, laidLooks := .later }
def NetWholesCardSaid : Prop := Claim7.holds Tryz.pinned (.plain (OpenSpec.ofChange netWholesSpec)) netWholesCard

/-- THE TIED CARD OF 'gnomonlaw10.NetGoals'. -/
def netGoalsCard : Claim7 := { stood := { row := netGoalsRow, standIns := [], harness := (true, "ffcb412fdbb1ebcba4acc0ae820c81adbf246ec3830b071bf31ceb79dcb2b4a6"), looks := false }, kinds := [], alts := [], laidByText := true, laidKinds := [.data, .data, .data, .data, .widerDeep], laidTests := true, laidLooks := .later }
def NetGoalsCardSaid : Prop := Claim7.holds Tryz.pinned (.plain (OpenSpec.ofChange netGoalsSpec)) netGoalsCard

/-- THE TIED CARD OF 'gnomonlaw10.NetSames'. -/
def netSamesCard : Claim7 := { stood := { row := netSamesRow, standIns := [], harness := (true, "ffcb412fdbb1ebcba4acc0ae820c81adbf246ec3830b071bf31ceb79dcb2b4a6"), looks := false }, kinds := [], alts := [], laidByText := true, laidKinds := [.data, .data, .data, .data, .widerDeep], laidTests := true, laidLooks := .later }
def NetSamesCardSaid : Prop := Claim7.holds Tryz.pinned (.plain (OpenSpec.ofChange netSamesSpec)) netSamesCard

/-- THE TIED CARD OF 'gnomonlaw10.NetTexts'. -/
def netTextsCard : Claim7 := { stood := { row := netTextsRow, standIns := [], harness := (true, "ffcb412fdbb1ebcba4acc0ae820c81adbf246ec3830b071bf31ceb79dcb2b4a6"), looks := false }, kinds := [], alts := [], laidByText := true, laidKinds := [.data, .data, .data, .data, .widerDeep], laidTests := true, laidLooks := .later }
def NetTextsCardSaid : Prop := Claim7.holds Tryz.pinned (.plain (OpenSpec.ofChange netTextsSpec)) netTextsCard

/-- THE TIED CARD OF 'gnomonlaw10.NetCopies'. -/
def netCopiesCard : Claim7 := { stood := { row := netCopiesRow, standIns := [], harness := (true, "ffcb412fdbb1ebcba4acc0ae820c81adbf246ec3830b071bf31ceb79dcb2b4a6"), looks := false }, kinds := [], alts := [], laidByText := true, laidKinds := [.data, .data, .data, .data, .widerDeep], laidTests := true, laidLooks := .later }
def NetCopiesCardSaid : Prop := Claim7.holds Tryz.pinned (.plain (OpenSpec.ofChange netCopiesSpec)) netCopiesCard

/-- THE SECOND FORM's CARD OF 'gnomonlaw13.StateOwn'. -/
def stateOwnUptoCard : Claim7 := { stood := { row := stateOwnUptoRow, standIns := [], harness := (true, "ffcb412fdbb1ebcba4acc0ae820c81adbf246ec3830b071bf31ceb79dcb2b4a6"), looks := false }, kinds := [], alts := [], laidByText := true, laidKinds := [.data, .data, .data, .data, .widerDeep], laidTests := true, laidLooks := .later }
def StateOwnUptoCardSaid : Prop := Claim7.holds Tryz.pinned (.plain (OpenSpec.upto stateOwnSpec)) stateOwnUptoCard

/-- THE SECOND FORM's CARD OF 'gnomonlaw13.StatePlays'. -/
def statePlaysUptoCard : Claim7 := { stood := { row := statePlaysUptoRow, standIns := [], harness := (true, "ffcb412fdbb1ebcba4acc0ae820c81adbf246ec3830b071bf31ceb79dcb2b4a6"), looks := false }, kinds := [], alts := [], laidByText := true, laidKinds := [.data, .data, .data, .data, .widerDeep], laidTests := true, laidLooks := .later }
def StatePlaysUptoCardSaid : Prop := Claim7.holds Tryz.pinned (.plain (OpenSpec.upto statePlaysSpec)) statePlaysUptoCard

/-- THE SECOND FORM's CARD OF 'gnomonlaw10.NetWholes'. -/
def netWholesUptoCard : Claim7 := { stood := { row := netWholesUptoRow, standIns := [], harness := (true, "ffcb412fdbb1ebcba4acc0ae820c81adbf246ec3830b071bf31ceb79dcb2b4a6"), looks := false }, kinds := [], alts := [], laidByText := true, laidKinds := [.data, .data, .data, .data, .widerDeep], laidTests := true, laidLooks := .later }
def NetWholesUptoCardSaid : Prop := Claim7.holds Tryz.pinned (.plain (OpenSpec.upto netWholesSpec)) netWholesUptoCard

/-- THE SECOND FORM's CARD OF 'gnomonlaw10.NetGoals'. -/
def netGoalsUptoCard : Claim7 := { stood := { row := netGoalsUptoRow, standIns := [], harness := (true, "ffcb412fdbb1ebcba4acc0ae820c81adbf246ec3830b071bf31ceb79dcb2b4a6"), looks := false }, kinds := [], alts := [], laidByText := true, laidKinds := [.data, .data, .data, .data, .widerDeep], laidTests := true, laidLooks := .later }
def NetGoalsUptoCardSaid : Prop := Claim7.holds Tryz.pinned (.plain (OpenSpec.upto netGoalsSpec)) netGoalsUptoCard

/-- THE SECOND FORM's CARD OF 'gnomonlaw10.NetSames'. -/
def netSamesUptoCard : Claim7 := { stood := { row := netSamesUptoRow, standIns := [], harness := (true, "ffcb412fdbb1ebcba4acc0ae820c81adbf246ec3830b071bf31ceb79dcb2b4a6"), looks := false }, kinds := [], alts := [], laidByText := true, laidKinds := [.data, .data, .data, .data, .widerDeep], laidTests := true, laidLooks := .later }
def NetSamesUptoCardSaid : Prop := Claim7.holds Tryz.pinned (.plain (OpenSpec.upto netSamesSpec)) netSamesUptoCard

/-- THE SECOND FORM's CARD OF 'gnomonlaw10.NetTexts'. -/
def netTextsUptoCard : Claim7 := { stood := { row := netTextsUptoRow, standIns := [], harness := (true, "ffcb412fdbb1ebcba4acc0ae820c81adbf246ec3830b071bf31ceb79dcb2b4a6"), looks := false }, kinds := [], alts := [], laidByText := true, laidKinds := [.data, .data, .data, .data, .widerDeep], laidTests := true, laidLooks := .later }
def NetTextsUptoCardSaid : Prop := Claim7.holds Tryz.pinned (.plain (OpenSpec.upto netTextsSpec)) netTextsUptoCard

/-- THE SECOND FORM's CARD OF 'gnomonlaw10.NetCopies'. -/
def netCopiesUptoCard : Claim7 := { stood := { row := netCopiesUptoRow, standIns := [], harness := (true, "ffcb412fdbb1ebcba4acc0ae820c81adbf246ec3830b071bf31ceb79dcb2b4a6"), looks := false }, kinds := [], alts := [], laidByText := true, laidKinds := [.data, .data, .data, .data, .widerDeep], laidTests := true, laidLooks := .later }
def NetCopiesUptoCardSaid : Prop := Claim7.holds Tryz.pinned (.plain (OpenSpec.upto netCopiesSpec)) netCopiesUptoCard
end Rows
end Go.Proofs.YtcfapbnblailbaaGreatDoor
