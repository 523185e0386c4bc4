/- Part of the proof: LV. -/
import Derived.Test.YtbjkfkifkglplaaGreatDoorT3
set_option linter.unusedSectionVars false
set_option linter.unusedSimpArgs false
set_option linter.unusedVariables false
set_option maxRecDepth 100000
namespace Go.Proofs.YtbjkfkifkglplaaGreatDoor.Q
open Go Go.Den
theorem live_is : gnomonlaw20_live.f 400 = some true := by decide +kernel
end Go.Proofs.YtbjkfkifkglplaaGreatDoor.Q
