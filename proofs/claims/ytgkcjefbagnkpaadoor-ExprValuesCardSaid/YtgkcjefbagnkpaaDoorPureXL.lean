import Derived.Test.YtgkcjefbagnkpaaDoorPureXF
import Derived.Test.YtgkcjefbagnkpaaDoorPValx13
import Derived.Test.YtgkcjefbagnkpaaDoorPValx12
import Derived.Test.YtgkcjefbagnkpaaDoorPValx11
import Derived.Test.YtgkcjefbagnkpaaDoorPValx9
import Derived.Test.YtgkcjefbagnkpaaDoorPValx10
import Derived.Test.YtgkcjefbagnkpaaDoorPValx7
import Derived.Test.YtgkcjefbagnkpaaDoorPValx4
import Derived.Test.YtgkcjefbagnkpaaDoorPValx5
import Derived.Test.YtgkcjefbagnkpaaDoorPureR8t
namespace Go.Proofs.YtgkcjefbagnkpaaDoor.PVal
set_option linter.unusedVariables false
set_option linter.unusedSimpArgs false
open Go Go.RowKit Go.Proofs.YtgkcjefbagnkpaaDoorW.PrintWords Go.Proofs.YtgkcjefbagnkpaaDoorW.PrintMore

theorem live_ev : Ev (fun k => gnomonlaw08_live.f k) true := Ev.of gnomonlaw08_live.mono (k := 60) (by decide +kernel)
end Go.Proofs.YtgkcjefbagnkpaaDoor.PVal
