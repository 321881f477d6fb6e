/- The dot action, by the program and by the reference. Condition: sizes up to 2^24. -/
import Derived.Test.YtlchafedbnihoaaJGCart
namespace Go.Proofs.Ytlchafedbnihoaa
open Go.RowKit
set_option maxRecDepth 20000
theorem zJP {c:List (List Int)} (h:isC c=true):rho c=List.replicate c.length 1:=by unfold rho; rw [if_pos h]
end Go.Proofs.Ytlchafedbnihoaa
