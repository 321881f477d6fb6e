/- Whether a list is a weight, or a word, of a matrix. Condition: sizes up to 2^24. -/
import Derived.Test.YtfpjojlkodglnaaJCartan
namespace Go.Proofs.Ytfpjojlkodglnaa
open Go.RowKit
set_option maxRecDepth 20000

def allB (p : Int → Bool) : List Int → Bool
  | [] => true
  | x :: xs => if p x then allB p xs else false
theorem allB_iff {p : Int → Bool} : ∀ {l : List Int}, allB p l = true ↔ ∀ x ∈ l, p x = true
  | [] => by simp [allB]
  | x :: xs => by
    unfold allB
    cases h : p x
    · simp [h]
    · simp [h, allB_iff (l := xs)]
def wtB (x : Int) : Bool := inR x (-1000) 1000
def isW (c : List (List Int)) (v : List Int) : Bool := isC c && decide (v.length = c.length) && allB wtB v
def ptB (c : List (List Int)) (x : Int) : Bool := inR x 0 ((c.length : Int) - 1)
def isWd (c : List (List Int)) (w : List Int) : Bool := isC c && decide (w.length ≤ 15) && allB (ptB c) w

theorem inR_yes {x a b : Int} (h : a ≤ x ∧ x ≤ b) : inR x a b = true := by unfold inR; simp; omega
theorem inR_no {x a b : Int} (h : ¬ (a ≤ x ∧ x ≤ b)) : inR x a b = false := by unfold inR; rw [Bool.and_eq_false_iff]; simp; omega

end Go.Proofs.Ytfpjojlkodglnaa
