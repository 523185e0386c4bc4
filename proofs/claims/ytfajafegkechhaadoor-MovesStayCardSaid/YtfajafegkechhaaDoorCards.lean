/-
  DERIVED. GIVEN WITH THE SEED: THE CARDS: each row of YtfajafegkechhaaDoorRows.lean that lists a variable, with what it lists TIED to the program's text (the seventh form; the later family's looks); each row that meets fmt, with fmt's text TOLD by the authors' own Lean function (tested against real Go, not proved from fmt's source: count such statements apart). THE CARD IS WHAT COUNTS. Prove the row's statement (the work); the ties are given (YtfajafegkechhaaDoorTie.lean); close each card by the builder's one call (the guide's Derived/Test/ToyasCard.lean, 'card_holds'). Laid BY PROGRAM, IN A SANDBOX (cutbox-door.mjs). By AI agents, Wed Nov 11 2026. No macro, syntax, notation, axiom, sorry.
-/
import Derived.Test.YtfajafegkechhaaDoorRows
import GoSem.ClaimSeven
namespace Go.Proofs.YtfajafegkechhaaDoor
namespace Rows

/-- THE TIED CARD OF 'gnomonlaw14.MovesStay'. -/
def movesStayCard : Claim7 := { stood := { row := movesStayRow, standIns := [], harness := (true, "b315707a1f4f4e2204e48fe32ef045a537ede3203d59f4d6ecd20fdaff502d8b"), looks := false }, kinds := [], alts := [], laidByText := true, laidKinds := [.data, .data, .data, .data, .widerDeep], laidTests := true, laidLooks := .later }
def MovesStayCardSaid : Prop := Claim7.holds Tryd.pinned (.plain (OpenSpec.ofChange movesStaySpec)) movesStayCard

/-- THE SECOND FORM's CARD OF 'gnomonlaw14.MovesStay'. -/
def movesStayUptoCard : Claim7 := { stood := { row := movesStayUptoRow, standIns := [], harness := (true, "b315707a1f4f4e2204e48fe32ef045a537ede3203d59f4d6ecd20fdaff502d8b"), looks := false }, kinds := [], alts := [], laidByText := true, laidKinds := [.data, .data, .data, .data, .widerDeep], laidTests := true, laidLooks := .later }
def MovesStayUptoCardSaid : Prop := Claim7.holds Tryd.pinned (.plain (OpenSpec.upto movesStaySpec)) movesStayUptoCard
end Rows
end Go.Proofs.YtfajafegkechhaaDoor
