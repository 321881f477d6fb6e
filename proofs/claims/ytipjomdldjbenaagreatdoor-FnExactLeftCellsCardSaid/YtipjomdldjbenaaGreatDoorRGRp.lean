/- R-polynomials by images of the ones: the program's recursion and the reference's agree. Plain. Condition: lengths together at most 29. Shifts by one by the program; the order of elements by the reference. R-polynomials: their lengths and numbers. Plain. No condition. -/
import Derived.Test.YtipjomdldjbenaaGreatDoorRGFin
import Derived.Test.YtipjomdldjbenaaGreatDoorRGPoly
import Derived.Test.YtipjomdldjbenaaGreatDoorRGNrm
namespace Go.Proofs.YtipjomdldjbenaaGreatDoor
open Go.RowKit
set_option maxRecDepth 20000
def bel (c : List (List Int)) : List Int → List Int → Bool
 | mu, [] => decide (firstN mu = none)
 | mu, s :: v => decide ((nf c 30 mu).length ≤ v.length + 1) && bel c (if num mu s.toNat < 0 then refl c s.toNat mu else mu) v
theorem Im.part {c : List (List Int)} {mu : List Int} {w : List Nat} (hl : mu.length = c.length) (hw : Cox.Lets c.length w) (h : Cox.Part c.length (ent c) (num mu) w) : ∃ m, m ≤ w.length ∧ Im c mu m := by
 obtain ⟨x, hx, he⟩ := h
 exact ⟨x.length, hx.length_le, hl, x, Cox.part_lets hw hx, rfl, fun k hk => (he k hk).symm⟩
theorem Im.refl_num {c : List (List Int)} (hc : CartanP c) {mu : List Int} {m : Nat} (h : Im c mu m) (hm : m ≤ 30) {i : Nat} (hi : i < c.length) {k : Nat} (hk : k < c.length) : num (refl c i mu) k = Cox.sW (ent c) i (num mu) k := by
 obtain ⟨hl, w, hw, hwl, hn⟩ := h
 rw [refl_exact hc hl hw (by omega) hn hi hk]
 unfold Cox.sW
 rw [hn k hk, hn i hi]
theorem nfl_le {c : List (List Int)} (hc : CartanP c) {mu : List Int} {m : Nat} (h : Im c mu m) (hm : m ≤ 30) : (nf c 30 mu).length ≤ m := by
 rw [nf_fuel hc m h hm hm]; exact nf_le hc m
theorem Im.num_ne {c : List (List Int)} (hc : CartanP c) {mu : List Int} {m : Nat} (h : Im c mu m) {i : Nat} (hi : i < c.length) : num mu i ≠ 0 := by
 have hl : mu.length = c.length := h.1
 exact h.ne hc (x := num mu i) (by simp [num, hl, hi])
theorem nfl_lets {c : List (List Int)} (hc : CartanP c) : ∀ (m : Nat) {mu : List Int}, Im c mu m → m ≤ 30 → Lets c.length (nf c 30 mu)
 | m, mu, h, hm => by
  cases e : firstN mu with
  | none => rw [nf_end e]; intro x hx; simp at hx
  | some i =>
   obtain ⟨m', rfl, h1, h2⟩ := nf_turn hc h hm e
   have ih := nfl_lets hc m' h1 (by omega)
   have hi := firstN_lt e
   have hl : mu.length = c.length := h.1
   rw [h2]
   intro x hx
   rcases List.mem_cons.1 hx with rfl | hx
   ·omega
   ·exact ih x hx
theorem nfl_eq {c : List (List Int)} (hc : CartanP c) {mu : List Int} {m : Nat} (h : Im c mu m) (hm : m ≤ 28) {i : Nat} (hi : i < c.length) : (num mu i < 0 → (nf c 30 (refl c i mu)).length < (nf c 30 mu).length) ∧ (¬ num mu i < 0 → ¬ (nf c 30 (refl c i mu)).length < (nf c 30 mu).length) := by
 have key : ∀ {nu : List Int} {k : Nat}, Im c nu k → k ≤ 29 → num nu i < 0 → (nf c 30 (refl c i nu)).length < (nf c 30 nu).length := by
  intro nu k hk hk2 hneg
  have hl := nfl_le hc hk (by omega)
  have hlt : Lets c.length (nf c 30 nu) := nfl_lets hc k hk (by omega)
  have him := image_im hc hlt (by omega)
  rw [nf_image hc k hk hk2] at him
  obtain ⟨m', h1, h2⟩ := him.back hc (by omega) (i := i) (x := num nu i) (by have := hk.1; simp [num, this, hi]) hneg
  have := nfl_le hc h2 (by omega)
  omega
 refine ⟨key h (by omega), fun hn => ?_⟩
 have h2 := h.step hc (by omega) hi
 have h3 := key h2 (by omega) (by
  rw [h.refl_num hc (by omega) hi hi]
  unfold Cox.sW
  rw [hc.car.diag i hi]
  have := h.num_ne hc hi
  omega)
 rw [h.turn_two hc (by omega) hi] at h3
 omega
theorem negL_len (l : List Int) : (negL l).length = l.length := by simp [negL]
theorem subP_le (a b : List Int) : (subP a b).length ≤ max a.length b.length := by
 have := addP_le a (negL b)
 rw [negL_len] at this
 exact this
theorem subP_in (a b : List Int) : InI (subP a b) := addP_in a (negL b)
theorem one_in : InI [1] := fun x hx => by simp at hx; subst hx; exact ⟨by decide, by decide⟩
theorem nil_in : InI [] := fun x hx => by cases hx
end Go.Proofs.YtipjomdldjbenaaGreatDoor
