/- Differences and shifts of polynomials by the reference. Condition: at most 2^22 numbers of Go's int. -/
import Derived.Test.YtkgjecabigdnoaaJPoly
import Derived.Test.YtkgjecabigdnoaaJLawInts
namespace Go.Proofs.Ytkgjecabigdnoaa
open Go.RowKit
set_option maxRecDepth 20000

def negL (l : List Int) : List Int := l.map fun x => wrap64 (-x)
def subP (a b : List Int) : List Int := addP a (negL b)
theorem negL_step {l : List Int} {k : Nat} {x : Int} (h : l[k]? = some x) : negL (l.take (k + 1)) = negL (l.take k) ++ [wrap64 (-x)] := by rw [take_step h]; simp [negL]
theorem wrap_in' (x : Int) : -9223372036854775808 ≤ wrap64 x ∧ wrap64 x ≤ 9223372036854775807 := by unfold wrap64; omega
theorem negL_in (l : List Int) : InI (negL l) := fun x hx => by
  obtain ⟨y, _, rfl⟩ := List.mem_map.1 hx
  exact wrap_in' _
theorem trim_mem {l : List Int} {x : Int} (h : x ∈ trim l) : x ∈ l := List.mem_of_mem_take h
theorem addP_in (a b : List Int) : InI (addP a b) := fun x hx => by
  obtain ⟨k, _, rfl⟩ := List.mem_map.1 (trim_mem hx)
  exact wrap_in' _
theorem addP_le (a b : List Int) : (addP a b).length ≤ max a.length b.length := by
  have := trim_le (sumTo a b (max a.length b.length))
  rw [sumTo_len] at this
  exact this

def shiftP (p : List Int) (k : Nat) : List Int := if p.length = 0 then trim p else trim (List.replicate k 0 ++ p)

end Go.Proofs.Ytkgjecabigdnoaa
