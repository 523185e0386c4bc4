/- The pure statement of LexNames stands in PureF. -/
import Derived.Test.YtgkcjefbagnkpaaDoorPureF
namespace Go.Proofs.YtgkcjefbagnkpaaDoor.PLex
end Go.Proofs.YtgkcjefbagnkpaaDoor.PLex
