/- The pure statement of LexPlaces stands in PureH. -/
import Derived.Test.YtgkcjefbagnkpaaDoorPureH
namespace Go.Proofs.YtgkcjefbagnkpaaDoor.PLex
end Go.Proofs.YtgkcjefbagnkpaaDoor.PLex
