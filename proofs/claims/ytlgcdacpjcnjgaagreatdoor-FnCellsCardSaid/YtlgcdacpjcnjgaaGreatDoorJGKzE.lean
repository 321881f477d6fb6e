/- What the program says of the polynomials of a small group, out of its table; how long these lists are. Condition: sizes up to 2^24. -/
import Derived.Test.YtlgcdacpjcnjgaaGreatDoorJKzN
namespace Go.Proofs.YtlgcdacpjcnjgaaGreatDoor
open Go.RowKit
set_option maxRecDepth 20000
theorem zH4 {A B:Nat}:∀{L:List (List Int)},L.length≤A→(∀x∈L,x.length≤B)→total L≤A*(B+1):=by
 intro L hA hB;have h1:(L.map List.length).sum≤L.length*B:=by
  clear hA
  induction L with
  | nil=>simp
  | cons x L ih =>
   have:=ih (fun y hy=>hB y (List.mem_cons_of_mem _ hy));have:=hB x (List.mem_cons_self ..);simp only [List.map_cons,List.sum_cons,List.length_cons,Nat.add_mul,Nat.one_mul];omega
 have h2:L.length*B≤A*B:=Nat.mul_le_mul_right _ hA;unfold total;rw [Nat.mul_add,Nat.mul_one];omega
section
variable {S S1 S2:Nat→Prop} {x y z:Value} {c:List (List Int)} {u v:List Int} {w:World}
end
end Go.Proofs.YtlgcdacpjcnjgaaGreatDoor
