/- The exchange, with the shorter word a part of the longer one; elements of parts of a word. Plain. No condition. -/
import Derived.Test.YteglcjembimegaaPar
namespace Go.Proofs.Yteglcjembimegaa
open Go.RowKit
set_option maxRecDepth 20000

namespace Cox
variable {n : Nat} {c : Nat → Nat → Int}
theorem exchange_sub (h : Car n c) {s : Nat} (hs : s < n) : ∀ {w : List Nat}, Lets n w → NegA n c w s → ∃ w', Lets n w' ∧ w'.length + 1 = w.length ∧ w'.Sublist w ∧ Eqv n c (w ++ [s]) w'
  | [], _, hn => by
    have := hn.1 s hs
    simp [aR, e] at this
  | k :: y, hw, hn => by
    have hk : k < n := hw k (by simp)
    have hy : Lets n y := fun j hj => hw j (by simp [hj])
    rcases coh h hy hs with hp | hn'
    · have hr := one_letter hp.1 hn.1 (fun j hj => by rw [aR_out hj _ hy, e_out hs hj])
      have hx := one_letter (c := tr c) hp.2 hn.2 (fun j hj => by rw [aR_out hj _ hy, e_out hs hj])
      have hb := bil_inv h (e s) (e s) hy
      rw [hr, hx, bil_scale, bil_e hk hk, bil_e hs hs, h.diag k hk, h.diag s hs] at hb
      have p1 := hp.1 k hk
      generalize aR n c y (e s) k = a at *
      generalize aR n (tr c) y (e s) k = b at *
      have hab : b * a = 1 := by omega
      have ha : a = 1 := Int.eq_one_of_mul_eq_one_left p1 hab
      have hb1 : b = 1 := by rw [ha] at hab; omega
      subst ha; subst hb1
      have h1 : aR n c y (e s) = e k := by rw [hr]; funext j; simp
      have h2 : aR n (tr c) y (e s) = e k := by rw [hx]; funext j; simp
      refine ⟨y, hy, by simp, List.sublist_cons_self _ _, ?_⟩
      have h3 := comm h hy hs hk h1 h2
      have h4 : Eqv n c (k :: (y ++ [s])) ([k] ++ (k :: y)) := (Eqv.refl [k]).app h3
      have h5 : Eqv n c ([k, k] ++ y) ([] ++ y) := (Eqv.two h hk).app (Eqv.refl y)
      exact h4.trans h5
    · obtain ⟨w', h1, h2, h3, h4⟩ := exchange_sub h hs hy hn'
      refine ⟨k :: w', fun j hj => ?_, by simp; omega, List.Sublist.cons_cons k h3, (Eqv.refl [k]).app h4⟩
      rcases List.mem_cons.1 hj with rfl | hj
      · exact hk
      · exact h1 j hj
/-- Where number i is negative, the reflected element is a word's part, shorter by one. -/
theorem image_sub (h : Car n c) {w : List Nat} (hw : Lets n w) {i : Nat} (hi : i < n) (hneg : aW c w one i < 0) : ∃ w', Lets n w' ∧ w'.length + 1 = w.length ∧ w'.Sublist w ∧ sW c i (aW c w one) = aW c w' one := by
  have hr := lets_rev hw
  have hn : NegA n c w.reverse i := by
    rcases coh h hr hi with hp | hn
    · rw [num_height h hw hi] at hneg
      have := (dot_one_pos hp.2).1
      omega
    · exact hn
  obtain ⟨w', a1, a2, a3, a4⟩ := exchange_sub h hi hr hn
  refine ⟨w'.reverse, lets_rev a1, by simp at a2 ⊢; omega, by have := List.reverse_sublist.2 a3; simpa using this, ?_⟩
  show aW c (i :: w) one = aW c w'.reverse one
  have e1 : (i :: w) = (w.reverse ++ [i]).reverse := by simp
  have hl : Lets n (w.reverse ++ [i]) := fun j hj => by
    rcases List.mem_append.1 hj with h | h
    · exact hr j h
    · simp at h; omega
  rw [e1]
  have b1 := aW_rev' h one a1
  have b2 := aW_rev h (aW c w'.reverse one) hl
  rw [a4.m, b1] at b2
  exact b2

/-- The element of a part of the word w. -/
def Part (n : Nat) (c : Nat → Nat → Int) (m : Nat → Int) (w : List Nat) : Prop := ∃ x, x.Sublist w ∧ ∀ k, k < n → aW c x one k = m k
theorem part_lets {w x : List Nat} (hw : Lets n w) (hx : x.Sublist w) : Lets n x := fun j hj => hw j (hx.subset hj)
/-- A part of s :: w: if s makes the element shorter, the reflected element is a part of w, and the other way round. -/
theorem part_down (h : Car n c) {m : Nat → Int} {s : Nat} {w : List Nat} (hs : s < n) (hw : Lets n w) (hm : m s < 0) : Part n c m (s :: w) ↔ Part n c (sW c s m) w := by
  constructor
  · rintro ⟨x, hx, he⟩
    have hxl := part_lets (w := s :: w) (fun j hj => by rcases List.mem_cons.1 hj with rfl | hj; exact hs; exact hw j hj) hx
    rcases List.sublist_cons_iff.1 hx with hx' | ⟨y, rfl, hy⟩
    · obtain ⟨x', a1, _, a3, a4⟩ := image_sub h hxl hs (by rw [he s hs]; exact hm)
      refine ⟨x', a3.trans hx', fun k hk => ?_⟩
      rw [← a4]
      unfold sW
      rw [he k hk, he s hs]
    · refine ⟨y, hy, fun k hk => ?_⟩
      have e1 : ∀ k, k < n → aW c y one k - aW c y one s * c k s = m k := he
      have e2 := e1 s hs
      rw [h.diag s hs] at e2
      have e3 := e1 k hk
      unfold sW
      rw [← e3, ← e2]
      have : (aW c y one s - aW c y one s * 2) * c k s = -(aW c y one s * c k s) := by rw [show aW c y one s - aW c y one s * 2 = -(aW c y one s) by omega, Int.neg_mul]
      rw [this]; omega
  · rintro ⟨y, hy, he⟩
    refine ⟨s :: y, List.Sublist.cons_cons s hy, fun k hk => ?_⟩
    show aW c y one k - aW c y one s * c k s = m k
    rw [he k hk, he s hs]
    unfold sW
    rw [h.diag s hs]
    have : (m s - m s * 2) * c k s = -(m s * c k s) := by rw [show m s - m s * 2 = -(m s) by omega, Int.neg_mul]
    rw [this]; omega
/-- .. and if it makes it longer. -/
theorem part_up (h : Car n c) {m : Nat → Int} {s : Nat} {w : List Nat} (hs : s < n) (hw : Lets n w) (hm : 0 < m s) : (Part n c m (s :: w) ↔ Part n c m w) ∧ (Part n c (sW c s m) w → Part n c m w) := by
  have key : Part n c (sW c s m) w → Part n c m w := by
    rintro ⟨y, hy, he⟩
    have hyl := part_lets hw hy
    have e2 := he s hs
    have e3 : sW c s m s = -(m s) := by unfold sW; rw [h.diag s hs]; omega
    obtain ⟨x', a1, _, a3, a4⟩ := image_sub h hyl hs (by rw [e2, e3]; omega)
    refine ⟨x', a3.trans hy, fun k hk => ?_⟩
    rw [← a4]
    show aW c y one k - aW c y one s * c k s = m k
    rw [he k hk, e2, e3]
    unfold sW
    rw [Int.neg_mul]; omega
  refine ⟨⟨?_, fun ⟨x, hx, he⟩ => ⟨x, hx.trans (List.sublist_cons_self _ _), he⟩⟩, key⟩
  rintro ⟨x, hx, he⟩
  rcases List.sublist_cons_iff.1 hx with hx' | ⟨y, rfl, hy⟩
  · exact ⟨x, hx', he⟩
  · refine key ⟨y, hy, fun k hk => ?_⟩
    have e1 : ∀ k, k < n → aW c y one k - aW c y one s * c k s = m k := he
    have e2 := e1 s hs
    rw [h.diag s hs] at e2
    have e3 := e1 k hk
    unfold sW
    rw [← e3, ← e2]
    have : (aW c y one s - aW c y one s * 2) * c k s = -(aW c y one s * c k s) := by rw [show aW c y one s - aW c y one s * 2 = -(aW c y one s) by omega, Int.neg_mul]
    rw [this]; omega
end Cox
end Go.Proofs.Yteglcjembimegaa
