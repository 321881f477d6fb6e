/- R-polynomials by images of the ones: the program's recursion and the reference's agree. Plain. Condition: lengths together at most 29. R-polynomials: their lengths and numbers. Plain. No condition. -/
import Derived.Test.YtipjomdldjbenaaGreatDoorJGFin
import Derived.Test.YtipjomdldjbenaaGreatDoorJGPoly
import Derived.Test.YtipjomdldjbenaaGreatDoorJGNrm
/-! R-polynomials by images of the ones: the program's recursion and the reference's agree. Plain. Condition: lengths together at most 29. -/
namespace Go.Proofs.YtipjomdldjbenaaGreatDoor
open Go.RowKit
set_option maxRecDepth 20000

def bel (c : List (List Int)) : List Int → List Int → Bool
  | mu, [] => decide (firstN mu = none)
  | mu, s :: v => decide ((nf c 30 mu).length ≤ v.length + 1) && bel c (if num mu s.toNat < 0 then refl c s.toNat mu else mu) v
theorem Im.part {c : List (List Int)} {mu : List Int} {w : List Nat} (hl : mu.length = c.length) (hw : Cox.Lets c.length w) (h : Cox.Part c.length (ent c) (num mu) w) : ∃ m, m ≤ w.length ∧ Im c mu m := by
  obtain ⟨x, hx, he⟩ := h
  exact ⟨x.length, hx.length_le, hl, x, Cox.part_lets hw hx, rfl, fun k hk => (he k hk).symm⟩
end Go.Proofs.YtipjomdldjbenaaGreatDoor

/-! R-polynomials: their lengths and numbers. Plain. No condition. -/
namespace Go.Proofs.YtipjomdldjbenaaGreatDoor
open Go.RowKit
set_option maxRecDepth 20000

theorem negL_len (l : List Int) : (negL l).length = l.length := by simp [negL]
theorem subP_le (a b : List Int) : (subP a b).length ≤ max a.length b.length := by
  have := addP_le a (negL b)
  rw [negL_len] at this
  exact this
theorem subP_in (a b : List Int) : InI (subP a b) := addP_in a (negL b)
theorem one_in : InI [1] := fun x hx => by simp at hx; subst hx; exact ⟨by decide, by decide⟩
theorem nil_in : InI [] := fun x hx => by cases hx

end Go.Proofs.YtipjomdldjbenaaGreatDoor
