/-
  DERIVED. GIVEN WITH THE SEED: THE CARDS: each row of YtjoefhhfppijaaaDoorRows.lean that lists a variable, with what it lists TIED to the program's text (the seventh form; the later family's looks); each row that meets fmt, with fmt's text TOLD by the authors' own Lean function (tested against real Go, not proved from fmt's source: count such statements apart). THE CARD IS WHAT COUNTS. Prove the row's statement (the work); the ties are given (YtjoefhhfppijaaaDoorTie.lean); close each card by the builder's one call (the guide's Derived/Test/ToyasCard.lean, 'card_holds'). Laid BY PROGRAM, IN A SANDBOX (cutbox-door.mjs). By AI agents, Wed Nov 11 2026. No macro, syntax, notation, axiom, sorry.
-/
import Derived.Test.YtjoefhhfppijaaaDoorRows
import GoSem.ClaimSeven
namespace Go.Proofs.YtjoefhhfppijaaaDoor
namespace Rows

/-- THE TIED CARD OF 'gnomonlaw08.ExprAll'. -/
def exprAllCard : Claim7 := { stood := { row := exprAllRow, standIns := [], harness := (true, "32da7ba8512b94167911e4d3398314a00c36be0f37878a5d6b759c379862ec15"), looks := false }, kinds := [], alts := [], laidByText := true, laidKinds := [.data, .data, .data, .data], laidTests := true, laidLooks := .later }
def ExprAllCardSaid : Prop := Claim7.holds Tryd.pinned (.plain (OpenSpec.ofChange exprAllSpec)) exprAllCard

/-- THE TIED CARD OF 'gnomonlaw13.StateOrder'. -/
def stateOrderCard : Claim7 := { stood := { row := stateOrderRow, standIns := [], harness := (true, "32da7ba8512b94167911e4d3398314a00c36be0f37878a5d6b759c379862ec15"), looks := false }, kinds := [], alts := [], laidByText := true, laidKinds := [.data, .data, .data, .data, .widerDeep], laidTests := true, laidLooks := .later }
def StateOrderCardSaid : Prop := Claim7.holds Tryd.pinned (.plain (OpenSpec.ofChange stateOrderSpec)) stateOrderCard

/-- THE TIED CARD OF 'gnomonlaw10.NetNames'. -/
def netNamesCard : Claim7 := { stood := { row := netNamesRow, standIns := [], harness := (true, "32da7ba8512b94167911e4d3398314a00c36be0f37878a5d6b759c379862ec15"), looks := false }, kinds := [], alts := [], laidByText := true, laidKinds := [.data, .data, .data, .data, .widerDeep], laidTests := true, laidLooks := .later }
def NetNamesCardSaid : Prop := Claim7.holds Tryd.pinned (.plain (OpenSpec.ofChange netNamesSpec)) netNamesCard

/-- THE TIED CARD OF 'gnomonlaw08.ExprLists'. -/
def exprListsCard : Claim7 := { stood := { row := exprListsRow, standIns := [], harness := (true, "32da7ba8512b94167911e4d3398314a00c36be0f37878a5d6b759c379862ec15"), looks := false }, kinds := [], alts := [], laidByText := true, laidKinds := [.data, .data, .data, .data], laidTests := true, laidLooks := .later }
def ExprListsCardSaid : Prop := Claim7.holds Tryd.pinned (.plain (OpenSpec.ofChange exprListsSpec)) exprListsCard

/-- THE TIED CARD OF 'gnomonlaw10.NetUnlike'. -/
def netUnlikeCard : Claim7 := { stood := { row := netUnlikeRow, standIns := [], harness := (true, "32da7ba8512b94167911e4d3398314a00c36be0f37878a5d6b759c379862ec15"), looks := false }, kinds := [], alts := [], laidByText := true, laidKinds := [.data, .data, .data, .data, .widerDeep], laidTests := true, laidLooks := .later }
def NetUnlikeCardSaid : Prop := Claim7.holds Tryd.pinned (.plain (OpenSpec.ofChange netUnlikeSpec)) netUnlikeCard

/-- THE SECOND FORM's CARD OF 'gnomonlaw08.ExprAll'. -/
def exprAllUptoCard : Claim7 := { stood := { row := exprAllUptoRow, standIns := [], harness := (true, "32da7ba8512b94167911e4d3398314a00c36be0f37878a5d6b759c379862ec15"), looks := false }, kinds := [], alts := [], laidByText := true, laidKinds := [.data, .data, .data, .data], laidTests := true, laidLooks := .later }
def ExprAllUptoCardSaid : Prop := Claim7.holds Tryd.pinned (.plain (OpenSpec.upto exprAllSpec)) exprAllUptoCard

/-- THE SECOND FORM's CARD OF 'gnomonlaw13.StateOrder'. -/
def stateOrderUptoCard : Claim7 := { stood := { row := stateOrderUptoRow, standIns := [], harness := (true, "32da7ba8512b94167911e4d3398314a00c36be0f37878a5d6b759c379862ec15"), looks := false }, kinds := [], alts := [], laidByText := true, laidKinds := [.data, .data, .data, .data, .widerDeep], laidTests := true, laidLooks := .later }
def StateOrderUptoCardSaid : Prop := Claim7.holds Tryd.pinned (.plain (OpenSpec.upto stateOrderSpec)) stateOrderUptoCard

/-- THE SECOND FORM's CARD OF 'gnomonlaw10.NetNames'. -/
def netNamesUptoCard : Claim7 := { stood := { row := netNamesUptoRow, standIns := [], harness := (true, "32da7ba8512b94167911e4d3398314a00c36be0f37878a5d6b759c379862ec15"), looks := false }, kinds := [], alts := [], laidByText := true, laidKinds := [.data, .data, .data, .data, .widerDeep], laidTests := true, laidLooks := .later }
def NetNamesUptoCardSaid : Prop := Claim7.holds Tryd.pinned (.plain (OpenSpec.upto netNamesSpec)) netNamesUptoCard

/-- THE SECOND FORM's CARD OF 'gnomonlaw08.ExprLists'. -/
def exprListsUptoCard : Claim7 := { stood := { row := exprListsUptoRow, standIns := [], harness := (true, "32da7ba8512b94167911e4d3398314a00c36be0f37878a5d6b759c379862ec15"), looks := false }, kinds := [], alts := [], laidByText := true, laidKinds := [.data, .data, .data, .data], laidTests := true, laidLooks := .later }
def ExprListsUptoCardSaid : Prop := Claim7.holds Tryd.pinned (.plain (OpenSpec.upto exprListsSpec)) exprListsUptoCard

/-- THE SECOND FORM's CARD OF 'gnomonlaw10.NetUnlike'. -/
def netUnlikeUptoCard : Claim7 := { stood := { row := netUnlikeUptoRow, standIns := [], harness := (true, "32da7ba8512b94167911e4d3398314a00c36be0f37878a5d6b759c379862ec15"), looks := false }, kinds := [], alts := [], laidByText := true, laidKinds := [.data, .data, .data, .data, .widerDeep], laidTests := true, laidLooks := .later }
def NetUnlikeUptoCardSaid : Prop := Claim7.holds Tryd.pinned (.plain (OpenSpec.upto netUnlikeSpec)) netUnlikeUptoCard
end Rows
end Go.Proofs.YtjoefhhfppijaaaDoor
