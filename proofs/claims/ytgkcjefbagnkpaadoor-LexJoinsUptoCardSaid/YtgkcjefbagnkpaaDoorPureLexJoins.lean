/- The pure statement of LexJoins stands in PureG. -/
import Derived.Test.YtgkcjefbagnkpaaDoorPureG
namespace Go.Proofs.YtgkcjefbagnkpaaDoor.PLex
end Go.Proofs.YtgkcjefbagnkpaaDoor.PLex
