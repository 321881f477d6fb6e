/- Products of polynomials, by the reference. Condition: sizes up to 2^23. Products of polynomials, by the program. Condition: sizes up to 2^23. -/
import Derived.Test.YtipjomdldjbenaaGreatJGColl
import Derived.RegionTactic
import Derived.BigRegion
import Derived.Shelf.RegionOpenPlain
/-! Products of polynomials, by the reference. Condition: sizes up to 2^23. -/
namespace Go.Proofs.YtipjomdldjbenaaGreat
open Go.RowKit
set_option maxRecDepth 20000

theorem FI.drewF {W w : World} {v : Value} {l : List Int} (h : FI (New W w) w v l) : FI (New W w.drew) w.drew v l := h.grow ((Below.refl _ w).drew)

end Go.Proofs.YtipjomdldjbenaaGreat

/-! Products of polynomials, by the program. Condition: sizes up to 2^23. -/
namespace Go.Proofs.YtipjomdldjbenaaGreat
open Go.RowKit
set_option maxRecDepth 20000

end Go.Proofs.YtipjomdldjbenaaGreat
