/-
  DERIVED. GIVEN WITH THE SEED: THE CARDS: each row of YtbjkfkifkglplaaGreatDoorRows.lean that lists a variable, with what it lists TIED to the program's text (the seventh form; the later family's looks); each row that meets fmt, with fmt's text TOLD by the authors' own Lean function (tested against real Go, not proved from fmt's source: count such statements apart). THE CARD IS WHAT COUNTS. Prove the row's statement (the work); the ties are given (YtbjkfkifkglplaaGreatDoorTie.lean); close each card by the builder's one call (the guide's Derived/Test/ToyasCard.lean, 'card_holds'). Laid BY PROGRAM, IN A SANDBOX (cutbox-door.mjs). By AI agents, Wed Nov 11 2026. No macro, syntax, notation, axiom, sorry.
-/
import Derived.Test.YtbjkfkifkglplaaGreatDoorRows
import GoSem.ClaimSeven
namespace Go.Proofs.YtbjkfkifkglplaaGreatDoor
namespace Rows

/-- THE TIED CARD OF 'gnomonlaw10.NetWholes'. -/
def netWholesCard : Claim7 := { stood := { row := netWholesRow, standIns := [], harness := (true, "9bbcada38d39936150a5f98ab940b2f4f5d94a9f49c4a03c881ed43e39b1d183"), looks := true }, kinds := [], alts := [], laidByText := true, laidKinds := [.data, .data, .data, .data, .widerDeep], laidTests := true, laidLooks := .later }
def NetWholesCardSaid : Prop := Claim7.holds Tryz.pinned (.plain (OpenSpec.ofChange netWholesSpec)) netWholesCard

/-- THE TIED CARD OF 'gnomonlaw10.NetGoals'. -/
def netGoalsCard : Claim7 := { stood := { row := netGoalsRow, standIns := [], harness := (true, "9bbcada38d39936150a5f98ab940b2f4f5d94a9f49c4a03c881ed43e39b1d183"), looks := true }, kinds := [], alts := [], laidByText := true, laidKinds := [.data, .data, .data, .data, .widerDeep], laidTests := true, laidLooks := .later }
def NetGoalsCardSaid : Prop := Claim7.holds Tryz.pinned (.plain (OpenSpec.ofChange netGoalsSpec)) netGoalsCard

/-- THE TIED CARD OF 'gnomonlaw10.NetSames'. -/
def netSamesCard : Claim7 := { stood := { row := netSamesRow, standIns := [], harness := (true, "9bbcada38d39936150a5f98ab940b2f4f5d94a9f49c4a03c881ed43e39b1d183"), looks := true }, kinds := [], alts := [], laidByText := true, laidKinds := [.data, .data, .data, .data, .widerDeep], laidTests := true, laidLooks := .later }
def NetSamesCardSaid : Prop := Claim7.holds Tryz.pinned (.plain (OpenSpec.ofChange netSamesSpec)) netSamesCard

/-- THE TIED CARD OF 'gnomonlaw10.NetTexts'. -/
def netTextsCard : Claim7 := { stood := { row := netTextsRow, standIns := [], harness := (true, "9bbcada38d39936150a5f98ab940b2f4f5d94a9f49c4a03c881ed43e39b1d183"), looks := true }, kinds := [], alts := [], laidByText := true, laidKinds := [.data, .data, .data, .data, .widerDeep], laidTests := true, laidLooks := .later }
def NetTextsCardSaid : Prop := Claim7.holds Tryz.pinned (.plain (OpenSpec.ofChange netTextsSpec)) netTextsCard

/-- THE TIED CARD OF 'gnomonlaw10.NetCopies'. -/
def netCopiesCard : Claim7 := { stood := { row := netCopiesRow, standIns := [], harness := (true, "9bbcada38d39936150a5f98ab940b2f4f5d94a9f49c4a03c881ed43e39b1d183"), looks := true }, kinds := [], alts := [], laidByText := true, laidKinds := [.data, .data, .data, .data, .widerDeep], laidTests := true, laidLooks := .later }
def NetCopiesCardSaid : Prop := Claim7.holds Tryz.pinned (.plain (OpenSpec.ofChange netCopiesSpec)) netCopiesCard

/-- THE TIED CARD OF 'gnomonlaw14.MovesAll'. -/
def movesAllCard : Claim7 := { stood := { row := movesAllRow, standIns := [], harness := (true, "9bbcada38d39936150a5f98ab940b2f4f5d94a9f49c4a03c881ed43e39b1d183"), looks := true }, kinds := [], alts := [], laidByText := true, laidKinds := [.data, .data, .data, .data, .widerDeep], laidTests := true, laidLooks := .later }
def MovesAllCardSaid : Prop := Claim7.holds Tryz.pinned (.plain (OpenSpec.ofChange movesAllSpec)) movesAllCard

/-- THE TIED CARD OF 'gnomonlaw20.RunOfTimes'. -/
def runOfTimesCard : Claim7 := { stood := { row := runOfTimesRow, standIns := [], harness := (true, "9bbcada38d39936150a5f98ab940b2f4f5d94a9f49c4a03c881ed43e39b1d183"), looks := true }, kinds := [], alts := [], laidByText := true, laidKinds := [.data, .data, .data, .data, .widerDeep], laidTests := true, laidLooks := .later }
def RunOfTimesCardSaid : Prop := Claim7.holds Tryz.pinned (.plain (OpenSpec.ofChange runOfTimesSpec)) runOfTimesCard

/-- THE TIED CARD OF 'gnomonlaw14.MovesTexts'. -/
def movesTextsCard : Claim7 := { stood := { row := movesTextsRow, standIns := [], harness := (true, "9bbcada38d39936150a5f98ab940b2f4f5d94a9f49c4a03c881ed43e39b1d183"), looks := true }, kinds := [], alts := [], laidByText := true, laidKinds := [.data, .data, .data, .data, .sentinel, .sentinel, .data, .widerDeep, .pinned], laidTests := true, laidLooks := .later }
def MovesTextsCardSaid : Prop := Claim7.holds Tryz.pinned (.plain (OpenSpec.ofChange movesTextsSpec)) movesTextsCard

/-- THE TIED CARD OF 'gnomonlaw14.MovesBack'. -/
def movesBackCard : Claim7 := { stood := { row := movesBackRow, standIns := [], harness := (true, "9bbcada38d39936150a5f98ab940b2f4f5d94a9f49c4a03c881ed43e39b1d183"), looks := true }, kinds := [], alts := [], laidByText := true, laidKinds := [.data, .data, .data, .data, .sentinel, .sentinel, .data, .widerDeep, .pinned], laidTests := true, laidLooks := .later }
def MovesBackCardSaid : Prop := Claim7.holds Tryz.pinned (.plain (OpenSpec.ofChange movesBackSpec)) movesBackCard

/-- THE SECOND FORM's CARD OF 'gnomonlaw10.NetWholes'. -/
def netWholesUptoCard : Claim7 := { stood := { row := netWholesUptoRow, standIns := [], harness := (true, "9bbcada38d39936150a5f98ab940b2f4f5d94a9f49c4a03c881ed43e39b1d183"), looks := true }, kinds := [], alts := [], laidByText := true, laidKinds := [.data, .data, .data, .data, .widerDeep], laidTests := true, laidLooks := .later }
def NetWholesUptoCardSaid : Prop := Claim7.holds Tryz.pinned (.plain (OpenSpec.upto netWholesSpec)) netWholesUptoCard

/-- THE SECOND FORM's CARD OF 'gnomonlaw10.NetGoals'. -/
def netGoalsUptoCard : Claim7 := { stood := { row := netGoalsUptoRow, standIns := [], harness := (true, "9bbcada38d39936150a5f98ab940b2f4f5d94a9f49c4a03c881ed43e39b1d183"), looks := true }, kinds := [], alts := [], laidByText := true, laidKinds := [.data, .data, .data, .data, .widerDeep], laidTests := true, laidLooks := .later }
def NetGoalsUptoCardSaid : Prop := Claim7.holds Tryz.pinned (.plain (OpenSpec.upto netGoalsSpec)) netGoalsUptoCard

/-- THE SECOND FORM's CARD OF 'gnomonlaw10.NetSames'. -/
def netSamesUptoCard : Claim7 := { stood := { row := netSamesUptoRow, standIns := [], harness := (true, "9bbcada38d39936150a5f98ab940b2f4f5d94a9f49c4a03c881ed43e39b1d183"), looks := true }, kinds := [], alts := [], laidByText := true, laidKinds := [.data, .data, .data, .data, .widerDeep], laidTests := true, laidLooks := .later }
def NetSamesUptoCardSaid : Prop := Claim7.holds Tryz.pinned (.plain (OpenSpec.upto netSamesSpec)) netSamesUptoCard

/-- THE SECOND FORM's CARD OF 'gnomonlaw10.NetTexts'. -/
def netTextsUptoCard : Claim7 := { stood := { row := netTextsUptoRow, standIns := [], harness := (true, "9bbcada38d39936150a5f98ab940b2f4f5d94a9f49c4a03c881ed43e39b1d183"), looks := true }, kinds := [], alts := [], laidByText := true, laidKinds := [.data, .data, .data, .data, .widerDeep], laidTests := true, laidLooks := .later }
def NetTextsUptoCardSaid : Prop := Claim7.holds Tryz.pinned (.plain (OpenSpec.upto netTextsSpec)) netTextsUptoCard

/-- THE SECOND FORM's CARD OF 'gnomonlaw10.NetCopies'. -/
def netCopiesUptoCard : Claim7 := { stood := { row := netCopiesUptoRow, standIns := [], harness := (true, "9bbcada38d39936150a5f98ab940b2f4f5d94a9f49c4a03c881ed43e39b1d183"), looks := true }, kinds := [], alts := [], laidByText := true, laidKinds := [.data, .data, .data, .data, .widerDeep], laidTests := true, laidLooks := .later }
def NetCopiesUptoCardSaid : Prop := Claim7.holds Tryz.pinned (.plain (OpenSpec.upto netCopiesSpec)) netCopiesUptoCard

/-- THE SECOND FORM's CARD OF 'gnomonlaw14.MovesAll'. -/
def movesAllUptoCard : Claim7 := { stood := { row := movesAllUptoRow, standIns := [], harness := (true, "9bbcada38d39936150a5f98ab940b2f4f5d94a9f49c4a03c881ed43e39b1d183"), looks := true }, kinds := [], alts := [], laidByText := true, laidKinds := [.data, .data, .data, .data, .widerDeep], laidTests := true, laidLooks := .later }
def MovesAllUptoCardSaid : Prop := Claim7.holds Tryz.pinned (.plain (OpenSpec.upto movesAllSpec)) movesAllUptoCard

/-- THE SECOND FORM's CARD OF 'gnomonlaw20.RunOfTimes'. -/
def runOfTimesUptoCard : Claim7 := { stood := { row := runOfTimesUptoRow, standIns := [], harness := (true, "9bbcada38d39936150a5f98ab940b2f4f5d94a9f49c4a03c881ed43e39b1d183"), looks := true }, kinds := [], alts := [], laidByText := true, laidKinds := [.data, .data, .data, .data, .widerDeep], laidTests := true, laidLooks := .later }
def RunOfTimesUptoCardSaid : Prop := Claim7.holds Tryz.pinned (.plain (OpenSpec.upto runOfTimesSpec)) runOfTimesUptoCard

/-- THE SECOND FORM's CARD OF 'gnomonlaw14.MovesTexts'. -/
def movesTextsUptoCard : Claim7 := { stood := { row := movesTextsUptoRow, standIns := [], harness := (true, "9bbcada38d39936150a5f98ab940b2f4f5d94a9f49c4a03c881ed43e39b1d183"), looks := true }, kinds := [], alts := [], laidByText := true, laidKinds := [.data, .data, .data, .data, .sentinel, .sentinel, .data, .widerDeep, .pinned], laidTests := true, laidLooks := .later }
def MovesTextsUptoCardSaid : Prop := Claim7.holds Tryz.pinned (.plain (OpenSpec.upto movesTextsSpec)) movesTextsUptoCard

/-- THE SECOND FORM's CARD OF 'gnomonlaw14.MovesBack'. -/
def movesBackUptoCard : Claim7 := { stood := { row := movesBackUptoRow, standIns := [], harness := (true, "9bbcada38d39936150a5f98ab940b2f4f5d94a9f49c4a03c881ed43e39b1d183"), looks := true }, kinds := [], alts := [], laidByText := true, laidKinds := [.data, .data, .data, .data, .sentinel, .sentinel, .data, .widerDeep, .pinned], laidTests := true, laidLooks := .later }
def MovesBackUptoCardSaid : Prop := Claim7.holds Tryz.pinned (.plain (OpenSpec.upto movesBackSpec)) movesBackUptoCard
end Rows
end Go.Proofs.YtbjkfkifkglplaaGreatDoor
