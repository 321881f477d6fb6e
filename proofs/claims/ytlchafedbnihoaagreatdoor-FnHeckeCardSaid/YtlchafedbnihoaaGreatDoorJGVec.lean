/- The dot action, by the program and by the reference. Condition: sizes up to 2^24. -/
import Derived.Test.YtlchafedbnihoaaGreatDoorJGCart
namespace Go.Proofs.YtlchafedbnihoaaGreatDoor
open Go.RowKit
set_option maxRecDepth 20000
theorem zNK {c:List (List Int)} (h:isC c=true):rho c=List.replicate c.length 1:=by unfold rho; rw [if_pos h]
end Go.Proofs.YtlchafedbnihoaaGreatDoor
