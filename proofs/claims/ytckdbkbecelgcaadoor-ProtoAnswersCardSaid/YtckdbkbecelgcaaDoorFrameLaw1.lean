/- The end of each law; the law of numbers. -/
import Derived.Test.YtckdbkbecelgcaaDoorFrameWalk4
import Derived.Test.YtckdbkbecelgcaaDoorFrameWalk6
import Derived.Test.YtckdbkbecelgcaaDoorRows
namespace Go.Proofs.YtckdbkbecelgcaaDoor
open Go.RowKit

end Go.Proofs.YtckdbkbecelgcaaDoor
