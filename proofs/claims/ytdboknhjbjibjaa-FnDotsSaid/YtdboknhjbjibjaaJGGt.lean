/- Lists of vectors in descending order. Plain lists. -/
import Derived.Test.YtdboknhjbjibjaaJGBase
namespace Go.Proofs.Ytdboknhjbjibjaa
open Go.RowKit

/-- Greater at the first number that differs. -/
def gtL : List Int → List Int → Bool
  | x :: xs, y :: ys => if x = y then gtL xs ys else decide (y < x)
  | _, _ => false
/-- The reference's insertion. -/
def putV (v : List Int) : List (List Int) → List (List Int)
  | [] => [v]
  | x :: l => if x = v then x :: l else if gtL v x = true then v :: x :: l else x :: putV v l
end Go.Proofs.Ytdboknhjbjibjaa
