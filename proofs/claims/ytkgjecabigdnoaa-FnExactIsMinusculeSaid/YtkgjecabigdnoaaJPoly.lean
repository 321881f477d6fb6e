/- Values, sums and differences of polynomials, by the reference; values by the program. Condition: at most 2^23 numbers of Go's int. -/
import Derived.Test.YtkgjecabigdnoaaJTrim
import Derived.Test.YtkgjecabigdnoaaJAppS
namespace Go.Proofs.Ytkgjecabigdnoaa
open Go.RowKit
set_option maxRecDepth 20000

def evalP (x : Int) : List Int → Int
  | [] => 0
  | y :: ys => wrap64 (wrap64 (evalP x ys * x) + y)
theorem evalP_step {x : Int} {l : List Int} {k : Nat} {y : Int} (h : l[k]? = some y) : evalP x (l.drop k) = wrap64 (wrap64 (evalP x (l.drop (k + 1)) * x) + y) := by rw [drop_step h]; rfl

/-- The sum, number by number, and without zeros at its end. -/
def sumTo (a b : List Int) (n : Nat) : List Int := (List.range n).map fun k => wrap64 (num a k + num b k)
def addP (a b : List Int) : List Int := trim (sumTo a b (max a.length b.length))
theorem sumTo_step (a b : List Int) (k : Nat) : sumTo a b (k + 1) = sumTo a b k ++ [wrap64 (num a k + num b k)] := by simp [sumTo, List.range_succ]
theorem sumTo_len (a b : List Int) (k : Nat) : (sumTo a b k).length = k := by simp [sumTo]
theorem num_out {l : List Int} {k : Nat} (h : l.length ≤ k) : num l k = 0 := by simp [num, List.getElem?_eq_none h]
theorem wrap_in {x : Int} (h : -9223372036854775808 ≤ x ∧ x ≤ 9223372036854775807) : wrap64 x = x := by unfold wrap64; omega
def InI (l : List Int) : Prop := ∀ x ∈ l, -9223372036854775808 ≤ x ∧ x ≤ 9223372036854775807

end Go.Proofs.Ytkgjecabigdnoaa
