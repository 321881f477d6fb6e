/- Keys of maps: short lists of numbers. No condition. -/
import Derived.Test.YtipjomdldjbenaaGreatJVec
import Derived.Test.YtipjomdldjbenaaGreatJGRp
import Derived.Test.YtipjomdldjbenaaGreatJOpen
import Derived.Maps.OwnSet
import Derived.Maps.OwnOps
import Derived.DeepKeys4
namespace Go.Proofs.YtipjomdldjbenaaGreat
open Go.RowKit
set_option maxRecDepth 20000

theorem num_in {a : List Int} (h : InI a) (k : Nat) : I64 (num a k) := by
  unfold num
  cases e : a[k]? with
  | none => decide
  | some x =>
    have := h x (List.mem_of_getElem? e)
    exact Go.WalkArith.wf_i64 (by simp; omega)
theorem num4_inj {a a' : List Int} (h : num a 0 = num a' 0 ∧ num a 1 = num a' 1 ∧ num a 2 = num a' 2 ∧ num a 3 = num a' 3) (hl : a.length = a'.length) (h4 : a.length ≤ 4) : a = a' := by
  obtain ⟨h0, h1, h2, h3⟩ := h
  rcases a with _ | ⟨a, _ | ⟨b, _ | ⟨c, _ | ⟨d, _ | ⟨e, l⟩⟩⟩⟩⟩ <;> rcases a' with _ | ⟨a', _ | ⟨b', _ | ⟨c', _ | ⟨d', _ | ⟨e', l'⟩⟩⟩⟩⟩ <;> simp [num] at * <;> simp_all

/-- How a remembered value reads: as itself. -/
def RD (v : Value) : Option (DataW Value × List MemPlace) := some (.held v, [])

section
variable {w w' : World}
theorem grown_below (h : Below w.heap.size w w') : w.grownBy w' none := ⟨h.os, h.tape, h.output, h.size, fun i hi _ => h.block i hi⟩

end
end Go.Proofs.YtipjomdldjbenaaGreat
