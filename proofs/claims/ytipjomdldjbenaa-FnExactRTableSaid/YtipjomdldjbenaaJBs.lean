/- Texts as values. No condition. -/
import Derived.Test.YtipjomdldjbenaaJGNrm
namespace Go.Proofs.Ytipjomdldjbenaa
open Go.RowKit
set_option maxRecDepth 20000

/-- A text as a value. -/
def bs (l : List UInt8) : ByteArray := ⟨l.toArray⟩
theorem bs_size (a : List UInt8) : (bs a).size = a.length := by simp [bs, ByteArray.size]
theorem bs_app (a b : List UInt8) : bs a ++ bs b = bs (a ++ b) := by
  apply ByteArray.ext
  simp [bs]
theorem bs_data (x : List UInt8) : (bs x).data.toList = x := by simp [bs]

theorem map_take_step {α β : Type} (f : α → β) {l : List α} {k : Nat} {x : α} (h : l[k]? = some x) : (l.take (k + 1)).map f = (l.take k).map f ++ [f x] := by rw [take_step h]; simp
end Go.Proofs.Ytipjomdldjbenaa
