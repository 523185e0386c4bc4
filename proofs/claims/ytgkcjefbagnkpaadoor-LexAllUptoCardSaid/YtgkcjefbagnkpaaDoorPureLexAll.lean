/- The pure statement of LexAll stands in PureE. -/
import Derived.Test.YtgkcjefbagnkpaaDoorPureE
namespace Go.Proofs.YtgkcjefbagnkpaaDoor.PLex
end Go.Proofs.YtgkcjefbagnkpaaDoor.PLex
