/- The coefficient of a word in a list of terms. Condition: sizes up to 2^24. -/
import Derived.Test.YtipjomdldjbenaaGreatDoorJLawTerm
import Derived.Test.YtipjomdldjbenaaGreatDoorJGWords
import Derived.Test.YtipjomdldjbenaaGreatDoorJGCart
namespace Go.Proofs.YtipjomdldjbenaaGreatDoor
open Go.RowKit
set_option maxRecDepth 20000

def coeff (l : List Int) : List Trm → List Int
  | [] => []
  | x :: xs => if eqL x.1 l then x.2 else coeff l xs

theorem coeff_le (l : List Int) : ∀ (L : List Trm), (coeff l L).length ≤ totalT L
  | [] => by simp [coeff]
  | x :: xs => by
    have ih := coeff_le l xs
    unfold coeff
    have h2 := term_le (L := x :: xs) (x := x) (by simp)
    have h3 : totalT (x :: xs) = totalT xs + 1 + x.1.length + x.2.length := by simp [totalT, flatT]; omega
    split <;> omega

theorem below_empty {w : World} {e : TypeId} : Below w.heap.size w (w.alloc (.cells #[] e)) := (Below.refl _ w).alloc (Nat.le_refl _) _

theorem FI.fresh0 (w : World) : FI (New w (w.alloc (.cells #[] 3))) (w.alloc (.cells #[] 3)) (.slice (some ⟨w.heap.size, 0, none⟩) 0 0) [] := by
  have := World.ownsRow_lit (base := w.heap.size) (e := 3) (size := 1) w #[] 0 (Nat.le_refl _) (by unfold maxLen; omega) rfl
  exact FI.of_row this (Nat.le_refl _) rfl rfl

end Go.Proofs.YtipjomdldjbenaaGreatDoor
