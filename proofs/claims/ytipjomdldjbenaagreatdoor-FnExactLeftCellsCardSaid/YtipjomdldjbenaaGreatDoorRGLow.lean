/- Parts of reduced words: they do not depend on the word, and from each there is a way up, letter by letter. Plain. No condition. The elements below a word: the reference's search, cover by cover, and the program's, letter by letter, find the same. Plain lists. Condition: words of at most 15 letters. -/
import Derived.Test.YtipjomdldjbenaaGreatDoorRGFin
import Derived.Test.YtipjomdldjbenaaGreatDoorRGEl
namespace Go.Proofs.YtipjomdldjbenaaGreatDoor
open Go.RowKit
set_option maxRecDepth 20000
namespace Cox
variable {n : Nat} {c : Nat → Nat → Int}
theorem lets_cons {i : Nat} {w : List Nat} (hi : i < n) (hw : Lets n w) : Lets n (i :: w) := fun j hj => by
 rcases List.mem_cons.1 hj with rfl | hj
 ·exact hi
 ·exact hw j hj
theorem lets_sub {x w : List Nat} (hw : Lets n w) (hx : x.Sublist w) : Lets n x := fun j hj => hw j (hx.subset hj)
theorem lets_one {i : Nat} (hi : i < n) : Lets n [i] := lets_cons hi (fun j hj => by simp at hj)
theorem eqv_cut (h : Car n c) : ∀ {w : List Nat}, Lets n w → Eqv n c (w ++ w.reverse) []
 | [], _ => Eqv.refl _
 | i :: w, hw => by
  have hi : i < n := hw i (by simp)
  have ih := eqv_cut h (w := w) (fun j hj => hw j (by simp [hj]))
  have e : (i :: w) ++ (i :: w).reverse = [i] ++ ((w ++ w.reverse) ++ [i]) := by simp
  rw [e]
  exact ((Eqv.refl [i]).app (ih.app (Eqv.refl [i]))).trans (Eqv.two h hi)
theorem eqv_cut' (h : Car n c) {w : List Nat} (hw : Lets n w) : Eqv n c (w.reverse ++ w) [] := by
 have := eqv_cut h (lets_rev hw)
 rwa [List.reverse_reverse] at this
theorem eqvL_rev (h : Car n c) {a b : List Nat} (ha : Lets n a) (hb : Lets n b) (k : Eqv n c a b) : Eqv n c a.reverse b.reverse := by
 have h1 : Eqv n c (a.reverse ++ []) (a.reverse ++ (b ++ b.reverse)) := (Eqv.refl _).app (eqv_cut h hb).symm
 have h2 : Eqv n c (a.reverse ++ (b ++ b.reverse)) (a.reverse ++ (a ++ b.reverse)) := (Eqv.refl _).app (k.symm.app (Eqv.refl _))
 have h3 : Eqv n c ((a.reverse ++ a) ++ b.reverse) ([] ++ b.reverse) := (eqv_cut' h ha).app (Eqv.refl _)
 rw [List.append_nil] at h1
 rw [List.append_assoc] at h3
 exact h1.trans (h2.trans h3)
theorem front_out (h : Car n c) {x : List Nat} (hx : Lets n x) {j : Nat} (hj : j < n) (hn : NegA n c x.reverse j) : ∃ x2, x2.Sublist x ∧ x2.length + 1 = x.length ∧ Eqv n c (j :: x) x2 := by
 obtain ⟨x2, a1, a2, a3, a4⟩ := exchange_sub h hj (lets_rev hx) hn
 have b4 := eqvL_rev h (lets_app (lets_rev hx) (lets_one hj)) a1 a4
 have e2 : (x.reverse ++ [j]).reverse = j :: x := by simp
 rw [e2] at b4
 exact ⟨x2.reverse, by have := List.reverse_sublist.2 a3; simpa using this, by simp at a2 ⊢; omega, b4⟩
theorem id_eqv3 (h : Car n c) : ∀ (N : Nat) (w : List Nat), w.length ≤ N → Lets n w → (∀ k, k < n → aW c w one k = 1) → Eqv n c w []
 | _, [], _, _, _ => Eqv.refl _
 | 0, i :: w, hN, _, _ => by simp at hN
 | N + 1, i :: w, hN, hw, h1 => by
  have hi : i < n := hw i (by simp)
  have hw' : Lets n w := fun j hj => hw j (by simp [hj])
  have e : aW c w one i - aW c w one i * c i i = 1 := h1 i hi
  rw [h.diag i hi] at e
  have hn : NegA n c w.reverse i := by
   rcases coh h (lets_rev hw') hi with hp | hn
   ·rw [num_height h hw' hi] at e
    have := (dot_one_pos hp.2).1
    omega
   ·exact hn
  obtain ⟨x2, a3, a2, b4⟩ := front_out h hw' hi hn
  exact b4.trans (id_eqv3 h N x2 (by simp at hN; omega) (lets_sub hw' a3) (fun k hk => by rw [← b4.m]; exact h1 k hk))
theorem same_eqv (h : Car n c) {w w' : List Nat} (hw : Lets n w) (hw' : Lets n w') (he : ∀ k, k < n → aW c w one k = aW c w' one k) : Eqv n c w w' := by
 have h1 : ∀ k, k < n → aW c (w'.reverse ++ w) one k = 1 := fun k hk => by
  rw [aW_append, aW_congr h he (lets_rev hw') k hk, aW_rev h one hw']
  rfl
 have h2 := id_eqv3 h _ _ (Nat.le_refl _) (lets_app (lets_rev hw') hw) h1
 have h3 : Eqv n c (w' ++ (w'.reverse ++ w)) (w' ++ []) := (Eqv.refl w').app h2
 have h4 : Eqv n c ((w' ++ w'.reverse) ++ w) ([] ++ w) := (eqv_cut h hw').app (Eqv.refl w)
 rw [List.append_assoc] at h4
 rw [List.append_nil] at h3
 exact h4.symm.trans h3
end Cox
end Go.Proofs.YtipjomdldjbenaaGreatDoor
namespace Go.Proofs.YtipjomdldjbenaaGreatDoor
open Go.RowKit
set_option maxRecDepth 20000
section
variable {c : List (List Int)}
def PtL (c : List (List Int)) (m w : List Int) : Prop := ∃ z : List Int, z.Sublist w ∧ image c z = m
theorem lets_subL {n : Nat} {z w : List Int} (h : Lets n w) (hz : z.Sublist w) : Lets n z := fun x hx => h x (hz.subset hx)
theorem img_eqv (hc : CartanP c) {x y : List Int} (hx : Lets c.length x) (hy : Lets c.length y) (lx : x.length ≤ 30) (ly : y.length ≤ 30) : Cox.Eqv c.length (ent c) (toN x) (toN y) ↔ image c x = image c y := by
 have n1 := image_num hc hx lx
 have n2 := image_num hc hy ly
 constructor
 ·intro h
  exact num_ext (image_len hc hx lx) (image_len hc hy ly) (fun k hk => by rw [n1 k hk, n2 k hk, h.m])
 ·intro h
  exact Cox.same_eqv hc.car (toN_lets hx) (toN_lets hy) (fun k hk => by rw [← n1 k hk, ← n2 k hk, h])
theorem norm_is (hc : CartanP c) {x : List Int} (hx : Lets c.length x) (lx : x.length ≤ 24) : Nf c (normL c x) ∧ image c (normL c x) = image c x := by
 have e := nf_image hc x.length (image_im hc hx (by omega)) (by omega)
 have h1 := normL_lets hc hx (by omega)
 have h2 := normL_le hc hx (by omega)
 exact ⟨⟨h1, by omega, by show nf c 30 (image c (nf c 30 (image c x))) = normL c x; rw [e]; rfl⟩, e⟩
structure Blw (c : List (List Int)) (w y : List Int) : Prop where
 nf : Nf c y
 part : PtL c (image c y) w
theorem Blw.le (hc : CartanP c) {w y : List Int} (hw : Lets c.length w) (lw : w.length ≤ 24) (h : Blw c w y) : y.length ≤ w.length := by
 obtain ⟨z, z1, z2⟩ := h.part
 have hz := lets_subL hw z1
 have := z1.length_le
 have h2 := normL_le hc hz (by omega)
 unfold normL at h2
 rw [z2] at h2
 have h3 := h.nf.nf
 unfold normL at h3
 rw [h3] at h2
 omega
end
end Go.Proofs.YtipjomdldjbenaaGreatDoor
