/- An element is known by its image of the vector of ones. Plain. No condition. -/
import Derived.Test.YtipjomdldjbenaaJGFin
namespace Go.Proofs.Ytipjomdldjbenaa
open Go.RowKit
set_option maxRecDepth 20000

namespace Cox
variable {n : Nat} {c : Nat → Nat → Int}
theorem step_eqv (h : Car n c) {w : List Nat} (hw : Lets n w) {i : Nat} (hi : i < n) (hneg : aW c w one i < 0) : ∃ w', Lets n w' ∧ w'.length + 1 = w.length ∧ ∀ m, aW c (i :: w) m = aW c w' m := by
  have hr := lets_rev hw
  rcases coh h hr hi with hp | hn
  · exfalso
    rw [num_height h hw hi] at hneg
    have := (dot_one_pos hp.2).1
    omega
  · obtain ⟨w', a1, a2, a3⟩ := exchange h hi hr (fun y _ hy => coh h hy hi) hn
    refine ⟨w'.reverse, lets_rev a1, by simp at a2 ⊢; omega, fun m => ?_⟩
    have e1 : (i :: w) = (w.reverse ++ [i]).reverse := by simp
    have hl : Lets n (w.reverse ++ [i]) := fun j hj => by
      rcases List.mem_append.1 hj with h | h
      · exact hr j h
      · simp at h; omega
    rw [e1]
    have b1 := aW_rev' h m a1
    have b2 := aW_rev h (aW c w'.reverse m) hl
    rw [a3.m, b1] at b2
    exact b2
theorem id_eqv (h : Car n c) : ∀ (N : Nat) (w : List Nat), w.length ≤ N → Lets n w → (∀ k, k < n → aW c w one k = 1) → ∀ m, aW c w m = m
  | _, [], _, _, _ => fun _ => rfl
  | 0, i :: w, hN, _, _ => by simp at hN
  | N + 1, i :: w, hN, hw, h1 => by
    have hi : i < n := hw i (by simp)
    have hw' : Lets n w := fun j hj => hw j (by simp [hj])
    have e : aW c w one i - aW c w one i * c i i = 1 := h1 i hi
    rw [h.diag i hi] at e
    obtain ⟨w', a1, a2, a3⟩ := step_eqv h hw' hi (by omega)
    have h2 : ∀ k, k < n → aW c w' one k = 1 := fun k hk => by rw [← a3]; exact h1 k hk
    intro m
    rw [a3]
    exact id_eqv h N w' (by simp at hN; omega) a1 h2 m
theorem same_img (h : Car n c) {w w' : List Nat} (hw : Lets n w) (hw' : Lets n w') (he : ∀ k, k < n → aW c w one k = aW c w' one k) (m : Nat → Int) : aW c w m = aW c w' m := by
  have h1 : ∀ k, k < n → aW c (w'.reverse ++ w) one k = 1 := fun k hk => by
    rw [aW_append, aW_congr h he (lets_rev hw') k hk, aW_rev h one hw']
    rfl
  have h2 := id_eqv h _ _ (Nat.le_refl _) (lets_app (lets_rev hw') hw) h1 m
  rw [aW_append] at h2
  have h3 := aW_rev' h (aW c w m) hw'
  rw [h2] at h3
  exact h3.symm
end Cox

section
variable {c : List (List Int)}
theorem toN_lets {w : List Int} (h : Lets c.length w) : Cox.Lets c.length (toN w) := fun i hi => by
  obtain ⟨x, hx, rfl⟩ := List.mem_map.1 hi
  have := h x hx
  omega
theorem image_num (hc : CartanP c) : ∀ {w : List Int}, Lets c.length w → w.length ≤ 30 → ∀ k, k < c.length → num (image c w) k = Cox.aW (ent c) (toN w) Cox.one k
  | [], _, _, k, hk => by simp [image, act, num, Cox.aW, Cox.one, toN, hk]
  | i :: w, hw, hl, k, hk => by
    have hw' : Lets c.length w := fun x hx => hw x (by simp [hx])
    have hl' : w.length ≤ 29 := by simp at hl; omega
    have ih := fun k hk => image_num hc hw' (by omega) k hk
    have h2 := hw i (by simp)
    have hlen := (image_im hc hw' (by omega)).len
    show num (refl c i.toNat (image c w)) k = Cox.sW (ent c) i.toNat (Cox.aW (ent c) (toN w) Cox.one) k
    exact refl_exact hc hlen (toN_lets hw') (by simp [toN]; omega) ih (by omega) hk
theorem image_len (hc : CartanP c) {w : List Int} (hw : Lets c.length w) (hl : w.length ≤ 30) : (image c w).length = c.length := (image_im hc hw hl).len
theorem lets_app' {a b : List Int} {n : Nat} (ha : Lets n a) (hb : Lets n b) : Lets n (a ++ b) := fun x hx => by
  rcases List.mem_append.1 hx with h | h
  · exact ha x h
  · exact hb x h
theorem toN_app (a b : List Int) : toN (a ++ b) = toN a ++ toN b := by simp [toN]
/-- Behind words of one element, further letters make words of one element. -/
theorem image_app (hc : CartanP c) {y y' z : List Int} (hy : Lets c.length y) (hy' : Lets c.length y') (hz : Lets c.length z) (hl : y.length + z.length ≤ 30) (hl' : y'.length + z.length ≤ 30) (he : image c y = image c y') : image c (y ++ z) = image c (y' ++ z) := by
  have n1 := image_num hc (lets_app' hy hz) (by simp; omega)
  have n2 := image_num hc (lets_app' hy' hz) (by simp; omega)
  have m1 := image_num hc hy (by omega)
  have m2 := image_num hc hy' (by omega)
  refine num_ext (n := c.length) (image_len hc (lets_app' hy hz) (by simp; omega)) (image_len hc (lets_app' hy' hz) (by simp; omega)) fun k hk => ?_
  rw [n1 k hk, n2 k hk, toN_app, toN_app, Cox.aW_append, Cox.aW_append]
  exact congrFun (Cox.same_img hc.car (toN_lets hy) (toN_lets hy') (fun j hj => by rw [← m1 j hj, ← m2 j hj, he]) _) k
/-- .. and ahead of them. -/
theorem image_pre (z : List Int) {y y' : List Int} (he : image c y = image c y') : image c (z ++ y) = image c (z ++ y') := by
  have e : ∀ (z w : List Int), image c (z ++ w) = act c z (image c w) := fun z w => by
    unfold image
    induction z with
    | nil => rfl
    | cons i z ih => exact congrArg (refl c i.toNat) ih
  rw [e, e, he]
end
end Go.Proofs.Ytipjomdldjbenaa
