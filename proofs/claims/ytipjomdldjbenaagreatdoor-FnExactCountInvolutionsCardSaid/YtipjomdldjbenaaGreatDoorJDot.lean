/- The dot action, by the program and by the reference. Condition: sizes up to 2^24. -/
import Derived.Test.YtipjomdldjbenaaGreatDoorJGCart
namespace Go.Proofs.YtipjomdldjbenaaGreatDoor
open Go.RowKit
set_option maxRecDepth 20000

def actOn (c : List (List Int)) (w v : List Int) : List Int := if isWd c w && decide (v.length = c.length) then act c w v else v
def dot (c : List (List Int)) (w v : List Int) : List Int := if isWd c w && decide (v.length = c.length) then (act c w (addW v (List.replicate c.length 1))).map less1 else v

theorem rho_of {c : List (List Int)} (h : isC c = true) : rho c = List.replicate c.length 1 := by unfold rho; rw [if_pos h]
theorem addK_less : ∀ (l : List Int), addK (-1) l (List.replicate l.length 1) = l.map less1
  | [] => rfl
  | x :: xs => by
    simp only [List.length_cons, List.replicate_succ, addK, List.map_cons]
    rw [addK_less xs]
    congr 1
    unfold less1
    rw [show wrap64 (-1 * 1) = -1 from by kernel_rfl]; rfl

theorem dot_yes {c : List (List Int)} {l l' : List Int} (h : isWd c l = true) (h2 : l'.length = c.length) : dot c l l' = (act c l (addW l' (List.replicate c.length 1))).map less1 := by simp [dot, h, h2]
theorem dot_no {c : List (List Int)} {l l' : List Int} (h : isWd c l = false ∨ l'.length ≠ c.length) : dot c l l' = l' := by rcases h with h | h <;> simp [dot, h]
theorem dot_len {c : List (List Int)} {l l' : List Int} : (dot c l l').length = l'.length := by
  by_cases h : isWd c l = true ∧ l'.length = c.length
  · rw [dot_yes h.1 h.2, List.length_map, act_length, addW_length, List.length_replicate, h.2, Nat.min_self]
  · rw [dot_no]
    by_cases h1 : isWd c l = true
    · exact .inr (fun e => h ⟨h1, e⟩)
    · exact .inl (by simpa using h1)

end Go.Proofs.YtipjomdldjbenaaGreatDoor
