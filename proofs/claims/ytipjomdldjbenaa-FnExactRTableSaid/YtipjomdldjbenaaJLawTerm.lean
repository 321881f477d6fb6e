/- The laws' own helpers over terms: pairs of lists of numbers. Condition: sizes up to 2^24. -/
import Derived.Test.YtipjomdldjbenaaJLawRows
import Derived.Test.YtipjomdldjbenaaJOpen
import Derived.StillTailTactics
namespace Go.Proofs.Ytipjomdldjbenaa
open Go.RowKit
set_option maxRecDepth 20000

def szT (q : Int) (n n' : Nat) : Int := szI (szI q n) n'

end Go.Proofs.Ytipjomdldjbenaa
