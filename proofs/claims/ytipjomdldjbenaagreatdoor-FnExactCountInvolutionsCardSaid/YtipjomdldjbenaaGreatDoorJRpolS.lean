/- R-polynomials by the reference (l22R). -/
import Derived.Test.YtipjomdldjbenaaGreatDoorJRbel
import Derived.Test.YtipjomdldjbenaaGreatDoorJGRp
namespace Go.Proofs.YtipjomdldjbenaaGreatDoor
open Go.RowKit
set_option maxRecDepth 20000

end Go.Proofs.YtipjomdldjbenaaGreatDoor
