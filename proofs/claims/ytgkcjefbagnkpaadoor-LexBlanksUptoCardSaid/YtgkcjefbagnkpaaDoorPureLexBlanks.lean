/- The pure statement of LexBlanks stands in PureR. -/
import Derived.Test.YtgkcjefbagnkpaaDoorPureR
namespace Go.Proofs.YtgkcjefbagnkpaaDoor.PLex
end Go.Proofs.YtgkcjefbagnkpaaDoor.PLex
