import Derived.Test.YtjoefhhfppijaaaDoorPureXF
import Derived.Test.YtjoefhhfppijaaaDoorPAllx8
import Derived.Test.YtjoefhhfppijaaaDoorPureR8
namespace Go.Proofs.YtjoefhhfppijaaaDoor.PAll
set_option linter.unusedVariables false
set_option linter.unusedSimpArgs false
open Go Go.RowKit Go.Proofs.YtjoefhhfppijaaaDoorW.PrintWords Go.Proofs.YtjoefhhfppijaaaDoorW.PrintMore

theorem live_ev : Ev (fun k => gnomonlaw08_live.f k) true := Ev.of gnomonlaw08_live.mono (k := 60) (by decide +kernel)
end Go.Proofs.YtjoefhhfppijaaaDoor.PAll
