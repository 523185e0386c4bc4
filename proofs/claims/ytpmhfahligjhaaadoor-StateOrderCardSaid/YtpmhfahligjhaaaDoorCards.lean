/-
  DERIVED. GIVEN WITH THE SEED: THE CARDS: each row of YtpmhfahligjhaaaDoorRows.lean that lists a variable, with what it lists TIED to the program's text (the seventh form; the later family's looks); each row that meets fmt, with fmt's text TOLD by the authors' own Lean function (tested against real Go, not proved from fmt's source: count such statements apart). THE CARD IS WHAT COUNTS. Prove the row's statement (the work); the ties are given (YtpmhfahligjhaaaDoorTie.lean); close each card by the builder's one call (the guide's Derived/Test/ToyasCard.lean, 'card_holds'). Laid BY PROGRAM, IN A SANDBOX (cutbox-door.mjs). By AI agents, Wed Nov 11 2026. No macro, syntax, notation, axiom, sorry.
-/
import Derived.Test.YtpmhfahligjhaaaDoorRows
import GoSem.ClaimSeven
namespace Go.Proofs.YtpmhfahligjhaaaDoor
namespace Rows

/-- THE TIED CARD OF 'gnomonlaw13.StateOrder'. -/
def stateOrderCard : Claim7 := { stood := { row := stateOrderRow, standIns := [], harness := (true, "9f41ea5b5a5c7482166e9d67096533abbf0089f67efb79f65e653231f083c5cf"), looks := false }, kinds := [], alts := [], laidByText := true, laidKinds := [.data, .data, .data, .data, .widerDeep], laidTests := true, laidLooks := .later }
def StateOrderCardSaid : Prop := Claim7.holds Tryd.pinned (.plain (OpenSpec.ofChange stateOrderSpec)) stateOrderCard

/-- THE SECOND FORM's CARD OF 'gnomonlaw13.StateOrder'. -/
def stateOrderUptoCard : Claim7 := { stood := { row := stateOrderUptoRow, standIns := [], harness := (true, "9f41ea5b5a5c7482166e9d67096533abbf0089f67efb79f65e653231f083c5cf"), looks := false }, kinds := [], alts := [], laidByText := true, laidKinds := [.data, .data, .data, .data, .widerDeep], laidTests := true, laidLooks := .later }
def StateOrderUptoCardSaid : Prop := Claim7.holds Tryd.pinned (.plain (OpenSpec.upto stateOrderSpec)) stateOrderUptoCard
end Rows
end Go.Proofs.YtpmhfahligjhaaaDoor
