/- The elements below a word: the reference's search, cover by cover, and the program's, letter by letter, find the same. Plain lists. Condition: words of at most 15 letters. -/
import Derived.Test.YtipjomdldjbenaaGreatDoorKGFin
import Derived.Test.YtipjomdldjbenaaGreatDoorKGEl
namespace Go.Proofs.YtipjomdldjbenaaGreatDoor
open Go.RowKit
set_option maxRecDepth 20000

section
variable {c : List (List Int)}
/-- An element that a part of the word w makes up. -/
def PtL (c : List (List Int)) (m w : List Int) : Prop := ∃ z : List Int, z.Sublist w ∧ image c z = m
theorem lets_subL {n : Nat} {z w : List Int} (h : Lets n w) (hz : z.Sublist w) : Lets n z := fun x hx => h x (hz.subset hx)
theorem norm_is (hc : CartanP c) {x : List Int} (hx : Lets c.length x) (lx : x.length ≤ 24) : Nf c (normL c x) ∧ image c (normL c x) = image c x := by
  have e := nf_image hc x.length (image_im hc hx (by omega)) (by omega)
  have h1 := normL_lets hc hx (by omega)
  have h2 := normL_le hc hx (by omega)
  exact ⟨⟨h1, by omega, by show nf c 30 (image c (nf c 30 (image c x))) = normL c x; rw [e]; rfl⟩, e⟩
/-- The elements below w. -/
structure Blw (c : List (List Int)) (w y : List Int) : Prop where
  nf : Nf c y
  part : PtL c (image c y) w
theorem Blw.le (hc : CartanP c) {w y : List Int} (hw : Lets c.length w) (lw : w.length ≤ 24) (h : Blw c w y) : y.length ≤ w.length := by
  obtain ⟨z, z1, z2⟩ := h.part
  have hz := lets_subL hw z1
  have := z1.length_le
  have h2 := normL_le hc hz (by omega)
  unfold normL at h2
  rw [z2] at h2
  have h3 := h.nf.nf
  unfold normL at h3
  rw [h3] at h2
  omega
/-! Covers, by the reference. -/
/-! The program's search. -/
end
end Go.Proofs.YtipjomdldjbenaaGreatDoor
