/- The points whose number is 0. Condition: sizes up to 2^24. -/
import Derived.Test.YtkgjecabigdnoaaGreatJGCart
import Derived.Test.YtkgjecabigdnoaaGreatJDom
namespace Go.Proofs.YtkgjecabigdnoaaGreat
open Go.RowKit
set_option maxRecDepth 20000

def zerosFrom : List Int → Nat → List Int
  | [], _ => []
  | x :: xs, k => if x = 0 then (k : Int) :: zerosFrom xs (k + 1) else zerosFrom xs (k + 1)
def stab (c : List (List Int)) (v : List Int) : List Int := if isW c v then (if dom v then zerosFrom v 0 else []) else []
def stabOk (c : List (List Int)) (v : List Int) : Bool := if isW c v then dom v else false
theorem zerosFrom_le : ∀ (l : List Int) (k : Nat), (zerosFrom l k).length ≤ l.length
  | [], k => by simp [zerosFrom]
  | x :: xs, k => by
    have := zerosFrom_le xs (k + 1)
    unfold zerosFrom
    split <;> simp <;> omega
theorem stab_le (c : List (List Int)) (v : List Int) : (stab c v).length ≤ v.length := by
  have := zerosFrom_le v 0
  unfold stab
  split <;> try split
  all_goals simp
  exact this

theorem FI.fresh (w : World) {w1 : World} (h : w1 = w.alloc (.cells #[] 3)) : FI (New w w1) w1 (.slice (some ⟨w.heap.size, 0, none⟩) 0 0) [] := by
  subst h
  exact FI.of_row (World.ownsRow_lit (base := w.heap.size) (e := 3) (size := 1) w #[] 0 (Nat.le_refl _) (by unfold maxLen; omega) rfl) (Nat.le_refl _) rfl rfl

end Go.Proofs.YtkgjecabigdnoaaGreat
