/- The pure statement of LexBack stands in PureMBack. -/
import Derived.Test.YtgkcjefbagnkpaaDoorPureMBack
namespace Go.Proofs.YtgkcjefbagnkpaaDoor.PLex
end Go.Proofs.YtgkcjefbagnkpaaDoor.PLex
