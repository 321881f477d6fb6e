/- Parts of reduced words: they do not depend on the word, and from each there is a way up, letter by letter. Plain. No condition. The elements below a word: the reference's search, cover by cover, and the program's, letter by letter, find the same. Plain lists. Condition: words of at most 15 letters. A word without one letter; the covers of an element, by the reference. Condition: sizes up to 2^24. The elements below a word, by the reference. Condition: sizes up to 2^24. -/
import Derived.Test.YtipjomdldjbenaaGreatDoorJGFin
import Derived.Test.YtipjomdldjbenaaGreatDoorJGEl
import Derived.Test.YtipjomdldjbenaaGreatDoorJPutE
import Derived.Test.YtipjomdldjbenaaGreatDoorJRpolS
import Derived.Test.YtipjomdldjbenaaGreatDoorJWsV
/-! Parts of reduced words: they do not depend on the word, and from each there is a way up, letter by letter. Plain. No condition. -/
namespace Go.Proofs.YtipjomdldjbenaaGreatDoor
open Go.RowKit
set_option maxRecDepth 20000

namespace Cox
variable {n : Nat} {c : Nat → Nat → Int}
theorem lets_cons {i : Nat} {w : List Nat} (hi : i < n) (hw : Lets n w) : Lets n (i :: w) := fun j hj => by
  rcases List.mem_cons.1 hj with rfl | hj
  · exact hi
  · exact hw j hj
theorem lets_sub {x w : List Nat} (hw : Lets n w) (hx : x.Sublist w) : Lets n x := fun j hj => hw j (hx.subset hj)
theorem lets_one {i : Nat} (hi : i < n) : Lets n [i] := lets_cons hi (fun j hj => by simp at hj)
theorem eqv_cut (h : Car n c) : ∀ {w : List Nat}, Lets n w → Eqv n c (w ++ w.reverse) []
  | [], _ => Eqv.refl _
  | i :: w, hw => by
    have hi : i < n := hw i (by simp)
    have ih := eqv_cut h (w := w) (fun j hj => hw j (by simp [hj]))
    have e : (i :: w) ++ (i :: w).reverse = [i] ++ ((w ++ w.reverse) ++ [i]) := by simp
    rw [e]
    exact ((Eqv.refl [i]).app (ih.app (Eqv.refl [i]))).trans (Eqv.two h hi)
theorem eqv_cut' (h : Car n c) {w : List Nat} (hw : Lets n w) : Eqv n c (w.reverse ++ w) [] := by
  have := eqv_cut h (lets_rev hw)
  rwa [List.reverse_reverse] at this
theorem eqvL_rev (h : Car n c) {a b : List Nat} (ha : Lets n a) (hb : Lets n b) (k : Eqv n c a b) : Eqv n c a.reverse b.reverse := by
  have h1 : Eqv n c (a.reverse ++ []) (a.reverse ++ (b ++ b.reverse)) := (Eqv.refl _).app (eqv_cut h hb).symm
  have h2 : Eqv n c (a.reverse ++ (b ++ b.reverse)) (a.reverse ++ (a ++ b.reverse)) := (Eqv.refl _).app (k.symm.app (Eqv.refl _))
  have h3 : Eqv n c ((a.reverse ++ a) ++ b.reverse) ([] ++ b.reverse) := (eqv_cut' h ha).app (Eqv.refl _)
  rw [List.append_nil] at h1
  rw [List.append_assoc] at h3
  exact h1.trans (h2.trans h3)
/-- No shorter word is a word of the same element. -/
def Red (n : Nat) (c : Nat → Nat → Int) (w : List Nat) : Prop := ∀ u, Lets n u → Eqv n c w u → w.length ≤ u.length
theorem pos_neg (h : Car n c) {w : List Nat} (hw : Lets n w) {s : Nat} (hs : s < n) (hp : PosA n c w s) (hn : NegA n c w s) : False := by
  have hb := bil_inv h (e s) (e s) hw
  rw [bil_e hs hs, h.diag s hs] at hb
  unfold bil at hb
  rw [dotN_zero (fun k hk => by have a := hp.2 k hk; have b := hn.2 k hk; omega)] at hb
  omega
theorem sR_self (h : Car n c) {j : Nat} (hj : j < n) : sR n c j (e j) = fun k => (-1) * e j k + 0 * e j k := by
  funext k
  unfold sR
  rw [dotN_e _ _ _ hj, h.diag j hj]
  omega
theorem neg_snoc (h : Car n c) {w : List Nat} {j : Nat} (hj : j < n) (hp : PosA n c w j) : NegA n c (w ++ [j]) j := by
  have one : ∀ {d : Nat → Nat → Int}, Car n d → Pos n (aR n d w (e j)) → Neg n (aR n d (w ++ [j]) (e j)) := fun {d} hd hq k hk => by
    rw [aR_append]
    show aR n d w (sR n d j (e j)) k ≤ 0
    rw [sR_self hd hj, aR_lin]
    have := hq k hk
    show -1 * aR n d w (e j) k + 0 * aR n d w (e j) k ≤ 0
    omega
  exact ⟨one h hp.1, one h.tr hp.2⟩
theorem negA_congr {w w' : List Nat} {s : Nat} (h : Eqv n c w w') (k : NegA n c w' s) : NegA n c w s := by
  refine ⟨?_, ?_⟩
  · rw [h.r]; exact k.1
  · rw [h.x]; exact k.2
/-- The exchange ahead of a word that keeps the root positive. -/
theorem exchange_pre (h : Car n c) {s : Nat} (hs : s < n) {p : List Nat} (hp : Lets n p) (hpos : PosA n c p s) : ∀ {a : List Nat}, Lets n a → NegA n c (a ++ p) s → ∃ a', Lets n a' ∧ a'.length + 1 = a.length ∧ a'.Sublist a ∧ Eqv n c (a ++ p ++ [s]) (a' ++ p)
  | [], _, hn => absurd hn (fun hn => pos_neg h hp hs hpos hn)
  | k :: y, ha, hn => by
    have hk : k < n := ha k (by simp)
    have hy : Lets n y := fun j hj => ha j (by simp [hj])
    have hyp : Lets n (y ++ p) := lets_app hy hp
    rcases coh h hyp hs with hq | hn'
    · have hr := one_letter hq.1 hn.1 (fun j hj => by rw [aR_out hj _ hyp, e_out hs hj])
      have hx := one_letter (c := tr c) hq.2 hn.2 (fun j hj => by rw [aR_out hj _ hyp, e_out hs hj])
      have hb := bil_inv h (e s) (e s) hyp
      rw [hr, hx, bil_scale, bil_e hk hk, bil_e hs hs, h.diag k hk, h.diag s hs] at hb
      have p1 := hq.1 k hk
      generalize aR n c (y ++ p) (e s) k = a at *
      generalize aR n (tr c) (y ++ p) (e s) k = b at *
      have hab : b * a = 1 := by omega
      have ha : a = 1 := Int.eq_one_of_mul_eq_one_left p1 hab
      have hb1 : b = 1 := by rw [ha] at hab; omega
      subst ha; subst hb1
      have h1 : aR n c (y ++ p) (e s) = e k := by rw [hr]; funext j; simp
      have h2 : aR n (tr c) (y ++ p) (e s) = e k := by rw [hx]; funext j; simp
      refine ⟨y, hy, by simp, List.sublist_cons_self _ _, ?_⟩
      have h3 := comm h hyp hs hk h1 h2
      have h4 : Eqv n c (k :: ((y ++ p) ++ [s])) ([k] ++ (k :: (y ++ p))) := (Eqv.refl [k]).app h3
      have h5 : Eqv n c ([k, k] ++ (y ++ p)) ([] ++ (y ++ p)) := (Eqv.two h hk).app (Eqv.refl _)
      exact h4.trans h5
    · obtain ⟨a', h1, h2, h3, h4⟩ := exchange_pre h hs hp hpos hy hn'
      exact ⟨k :: a', lets_cons hk h1, by simp; omega, List.Sublist.cons_cons k h3, (Eqv.refl [k]).app h4⟩
/-- Each word of z has a part, one letter shorter, that is a word of x. -/
def Dn (n : Nat) (c : Nat → Nat → Int) (z x : List Nat) : Prop := ∀ y, Lets n y → Eqv n c y z → ∃ y', y'.Sublist y ∧ y'.length + 1 = y.length ∧ Eqv n c y' x
theorem down_of (h : Car n c) {p x' : List Nat} {j : Nat} (hj : j < n) (hp : Lets n p) (hx : Lets n x') (h1 : PosA n c p j) (h2 : PosA n c x'.reverse j) : Dn n c (p ++ j :: x') (p ++ x') := by
  intro y hy he
  have hz : Lets n (p ++ j :: x') := lets_app hp (lets_cons hj hx)
  have e1 := eqvL_rev h hy hz he
  have e2 : (p ++ j :: x').reverse = (x'.reverse ++ [j]) ++ p.reverse := by simp
  rw [e2] at e1
  have e3 : Eqv n c (y.reverse ++ p) (x'.reverse ++ [j]) := by
    have a := e1.app (Eqv.refl p)
    have b : Eqv n c ((x'.reverse ++ [j]) ++ (p.reverse ++ p)) ((x'.reverse ++ [j]) ++ []) := (Eqv.refl _).app (eqv_cut' h hp)
    rw [List.append_nil] at b
    rw [List.append_assoc (x'.reverse ++ [j])] at a
    exact a.trans b
  obtain ⟨a', b1, b2, b3, b4⟩ := exchange_pre h hj hp h1 (lets_rev hy) (negA_congr e3 (neg_snoc h hj h2))
  refine ⟨a'.reverse, by have := List.reverse_sublist.2 b3; simpa using this, by simp at b2 ⊢; omega, ?_⟩
  have f1 : Eqv n c (a' ++ p) x'.reverse := by
    have g1 := e3.app (Eqv.refl [j])
    have g2 : Eqv n c (x'.reverse ++ [j, j]) (x'.reverse ++ []) := (Eqv.refl _).app (Eqv.two h hj)
    rw [List.append_nil] at g2
    rw [List.append_assoc x'.reverse] at g1
    exact b4.symm.trans (g1.trans g2)
  have f2 : Eqv n c a' (x'.reverse ++ p.reverse) := by
    have g1 : Eqv n c ((a' ++ p) ++ p.reverse) (x'.reverse ++ p.reverse) := f1.app (Eqv.refl _)
    have g2 : Eqv n c (a' ++ (p ++ p.reverse)) (a' ++ []) := (Eqv.refl _).app (eqv_cut h hp)
    rw [List.append_nil] at g2
    rw [List.append_assoc] at g1
    exact g2.symm.trans g1
  have f3 := eqvL_rev h b1 (lets_app (lets_rev hx) (lets_rev hp)) f2
  rw [← List.reverse_append, List.reverse_reverse] at f3
  exact f3
/-- A letter that makes a word shorter takes away one of its letters. -/
theorem front_out (h : Car n c) {x : List Nat} (hx : Lets n x) {j : Nat} (hj : j < n) (hn : NegA n c x.reverse j) : ∃ x2, x2.Sublist x ∧ x2.length + 1 = x.length ∧ Eqv n c (j :: x) x2 := by
  obtain ⟨x2, a1, a2, a3, a4⟩ := exchange_sub h hj (lets_rev hx) hn
  have b4 := eqvL_rev h (lets_app (lets_rev hx) (lets_one hj)) a1 a4
  have e2 : (x.reverse ++ [j]).reverse = j :: x := by simp
  rw [e2] at b4
  exact ⟨x2.reverse, by have := List.reverse_sublist.2 a3; simpa using this, by simp at a2 ⊢; omega, b4⟩
/-- From a reduced part of a reduced word there is one more letter of it. -/
theorem up_step (h : Car n c) : ∀ (w' : List Nat) {p x' : List Nat}, Lets n (p ++ w') → x'.Sublist w' → Red n c (p ++ w') → Red n c (p ++ x') → x'.length < w'.length →
    ∃ z, z.Sublist (p ++ w') ∧ Red n c z ∧ z.length = p.length + x'.length + 1 ∧ Dn n c z (p ++ x')
  | [], _, _, _, _, _, _, hl => by simp at hl
  | j :: w1, p, x', hL, hs, hw, hx, hl => by
    have hj : j < n := hL j (by simp)
    have hp : Lets n p := fun i hi => hL i (by simp [hi])
    have hw1 : Lets n w1 := fun i hi => hL i (by simp [hi])
    have e : p ++ j :: w1 = (p ++ [j]) ++ w1 := by simp
    rcases List.sublist_cons_iff.1 hs with hs' | ⟨x1, rfl, hs1⟩
    · have hxl : Lets n x' := lets_sub hw1 hs'
      have hpos : PosA n c p j := by
        rcases coh h hp hj with h1 | h1
        · exact h1
        · exfalso
          obtain ⟨p', a1, a2, _, a4⟩ := exchange_sub h hj hp h1
          have := hw (p' ++ w1) (lets_app a1 hw1) (by rw [e]; exact a4.app (Eqv.refl _))
          simp at this
          omega
      rcases coh h (lets_rev hxl) hj with h2 | h2
      · have hD := down_of h hj hp hxl hpos h2
        refine ⟨p ++ j :: x', (List.Sublist.refl p).append (hs'.cons_cons j), fun u hu he => ?_, by simp; omega, hD⟩
        obtain ⟨u', b1, b2, b3⟩ := hD u hu he.symm
        have := hx u' (lets_sub hu b1) b3.symm
        simp at this ⊢
        omega
      · obtain ⟨x2, a3, a2, b4⟩ := front_out h hxl hj h2
        have f : Eqv n c (p ++ x') ((p ++ [j]) ++ x2) := by
          have g1 : Eqv n c (p ++ ([j, j] ++ x')) (p ++ ([] ++ x')) := (Eqv.refl p).app ((Eqv.two h hj).app (Eqv.refl _))
          have g2 : Eqv n c ((p ++ [j]) ++ (j :: x')) ((p ++ [j]) ++ x2) := (Eqv.refl _).app b4
          have g3 : p ++ ([j, j] ++ x') = (p ++ [j]) ++ (j :: x') := by simp
          rw [g3] at g1
          exact g1.symm.trans g2
        have hR : Red n c ((p ++ [j]) ++ x2) := fun u hu he => by
          have := hx u hu (f.trans he)
          simp at this ⊢
          omega
        obtain ⟨z, c1, c2, c3, c4⟩ := up_step h w1 (p := p ++ [j]) (x' := x2) (by rw [← e]; exact hL) (a3.trans hs') (by rw [← e]; exact hw) hR (by have := hs'.length_le; omega)
        refine ⟨z, by rw [e]; exact c1, c2, by simp at c3; omega, fun y hy he => ?_⟩
        obtain ⟨y', d1, d2, d3⟩ := c4 y hy he
        exact ⟨y', d1, d2, d3.trans f.symm⟩
    · have e3 : p ++ j :: x1 = (p ++ [j]) ++ x1 := by simp
      obtain ⟨z, c1, c2, c3, c4⟩ := up_step h w1 (p := p ++ [j]) (x' := x1) (by rw [← e]; exact hL) hs1 (by rw [← e]; exact hw) (by rw [← e3]; exact hx) (by simp at hl; omega)
      refine ⟨z, by rw [e]; exact c1, c2, by simp at c3 ⊢; omega, by rw [e3]; exact c4⟩
/-- Each word has a reduced part that is a word of its element. -/
theorem red_sub (h : Car n c) : ∀ {x : List Nat}, Lets n x → ∃ x', x'.Sublist x ∧ Red n c x' ∧ Eqv n c x' x
  | [], _ => ⟨[], List.Sublist.refl _, fun _ _ _ => Nat.zero_le _, Eqv.refl _⟩
  | s :: t, hx => by
    have hs : s < n := hx s (by simp)
    have ht : Lets n t := fun j hj => hx j (by simp [hj])
    obtain ⟨t', a1, a2, a3⟩ := red_sub h (x := t) ht
    have ht' := lets_sub ht a1
    rcases coh h (lets_rev ht') hs with h2 | h2
    · have hD := down_of h (p := []) hs (fun j hj => by simp at hj) ht' ⟨fun k _ => by show (0 : Int) ≤ Cox.e s k; unfold Cox.e; split <;> omega, fun k _ => by show (0 : Int) ≤ Cox.e s k; unfold Cox.e; split <;> omega⟩ h2
      refine ⟨s :: t', a1.cons_cons s, fun u hu he => ?_, (Eqv.refl [s]).app a3⟩
      obtain ⟨u', b1, b2, b3⟩ := hD u hu he.symm
      have := a2 u' (lets_sub hu b1) b3.symm
      simp
      omega
    · obtain ⟨x2, b3, b2, b4⟩ := front_out h ht' hs h2
      refine ⟨x2, (b3.trans a1).trans (List.sublist_cons_self _ _), fun u hu he => ?_, b4.symm.trans ((Eqv.refl [s]).app a3)⟩
      have g : Eqv n c t' (s :: u) := by
        have g1 : Eqv n c ([s, s] ++ t') ([] ++ t') := (Eqv.two h hs).app (Eqv.refl _)
        have g2 : Eqv n c ([s] ++ (s :: t')) ([s] ++ u) := (Eqv.refl [s]).app (b4.trans he)
        exact g1.symm.trans g2
      have := a2 (s :: u) (lets_cons hs hu) g
      simp at this
      omega
/-- What is a part of a reduced word is a part of each word of its element. -/
theorem part_any (h : Car n c) {w : List Nat} (hw : Lets n w) (hr : Red n c w) : ∀ (d : Nat) {x : List Nat}, x.Sublist w → Red n c x → w.length ≤ x.length + d → ∀ y, Lets n y → Eqv n c y w → ∃ y', y'.Sublist y ∧ Eqv n c y' x
  | 0, x, hs, _, hd, y, _, he => by
    have : x = w := hs.eq_of_length_le (by omega)
    subst this
    exact ⟨y, List.Sublist.refl _, he⟩
  | d + 1, x, hs, hx, hd, y, hy, he => by
    by_cases hl : x.length < w.length
    · obtain ⟨z, z1, z2, z3, z4⟩ := up_step h w (p := []) (x' := x) hw hs hr hx hl
      obtain ⟨y1, b1, b2⟩ := part_any h hw hr d (x := z) z1 z2 (by simp at z3; omega) y hy he
      obtain ⟨y2, d1, _, d3⟩ := z4 y1 (lets_sub hy b1) b2
      exact ⟨y2, d1.trans b1, d3⟩
    · have : x = w := hs.eq_of_length_le (by omega)
      subst this
      exact ⟨y, List.Sublist.refl _, he⟩
/-- A proper part of a reduced word is a part of one of its reduced parts that lack one letter. -/
theorem part_cover (h : Car n c) {w : List Nat} (hw : Lets n w) (hr : Red n c w) : ∀ (d : Nat) {x : List Nat}, x.Sublist w → Red n c x → x.length < w.length → w.length ≤ x.length + d → ∃ z, z.Sublist w ∧ z.length + 1 = w.length ∧ Red n c z ∧ ∃ x', x'.Sublist z ∧ Eqv n c x' x
  | 0, x, _, _, hl, hd => by omega
  | d + 1, x, hs, hx, hl, hd => by
    by_cases h1 : x.length + 1 = w.length
    · exact ⟨x, hs, h1, hx, x, List.Sublist.refl _, Eqv.refl _⟩
    · obtain ⟨z, z1, z2, z3, z4⟩ := up_step h w (p := []) (x' := x) hw hs hr hx hl
      simp at z3
      obtain ⟨y, y1, y2, y3, z', t1, t2⟩ := part_cover h hw hr d (x := z) z1 z2 (by omega) (by omega)
      obtain ⟨x'', u1, _, u3⟩ := z4 z' (lets_sub (lets_sub hw y1) t1) t2
      exact ⟨y, y1, y2, y3, x'', u1.trans t1, u3⟩
/-- Words that take the ones to the same are words of one element. -/
theorem id_eqv3 (h : Car n c) : ∀ (N : Nat) (w : List Nat), w.length ≤ N → Lets n w → (∀ k, k < n → aW c w one k = 1) → Eqv n c w []
  | _, [], _, _, _ => Eqv.refl _
  | 0, i :: w, hN, _, _ => by simp at hN
  | N + 1, i :: w, hN, hw, h1 => by
    have hi : i < n := hw i (by simp)
    have hw' : Lets n w := fun j hj => hw j (by simp [hj])
    have e : aW c w one i - aW c w one i * c i i = 1 := h1 i hi
    rw [h.diag i hi] at e
    have hn : NegA n c w.reverse i := by
      rcases coh h (lets_rev hw') hi with hp | hn
      · rw [num_height h hw' hi] at e
        have := (dot_one_pos hp.2).1
        omega
      · exact hn
    obtain ⟨x2, a3, a2, b4⟩ := front_out h hw' hi hn
    exact b4.trans (id_eqv3 h N x2 (by simp at hN; omega) (lets_sub hw' a3) (fun k hk => by rw [← b4.m]; exact h1 k hk))
theorem same_eqv (h : Car n c) {w w' : List Nat} (hw : Lets n w) (hw' : Lets n w') (he : ∀ k, k < n → aW c w one k = aW c w' one k) : Eqv n c w w' := by
  have h1 : ∀ k, k < n → aW c (w'.reverse ++ w) one k = 1 := fun k hk => by
    rw [aW_append, aW_congr h he (lets_rev hw') k hk, aW_rev h one hw']
    rfl
  have h2 := id_eqv3 h _ _ (Nat.le_refl _) (lets_app (lets_rev hw') hw) h1
  have h3 : Eqv n c (w' ++ (w'.reverse ++ w)) (w' ++ []) := (Eqv.refl w').app h2
  have h4 : Eqv n c ((w' ++ w'.reverse) ++ w) ([] ++ w) := (eqv_cut h hw').app (Eqv.refl w)
  rw [List.append_assoc] at h4
  rw [List.append_nil] at h3
  exact h4.symm.trans h3
end Cox
end Go.Proofs.YtipjomdldjbenaaGreatDoor

/-! The elements below a word: the reference's search, cover by cover, and the program's, letter by letter, find the same. Plain lists. Condition: words of at most 15 letters. -/
namespace Go.Proofs.YtipjomdldjbenaaGreatDoor
open Go.RowKit
set_option maxRecDepth 20000

section
variable {c : List (List Int)}
/-- An element that a part of the word w makes up. -/
def PtL (c : List (List Int)) (m w : List Int) : Prop := ∃ z : List Int, z.Sublist w ∧ image c z = m
theorem lets_subL {n : Nat} {z w : List Int} (h : Lets n w) (hz : z.Sublist w) : Lets n z := fun x hx => h x (hz.subset hx)
theorem toN_len (z : List Int) : (toN z).length = z.length := by simp [toN]
theorem toN_sub {z w : List Int} (h : z.Sublist w) : (toN z).Sublist (toN w) := h.map _
theorem sub_toN {y : List Nat} {w : List Int} (h : y.Sublist (toN w)) : ∃ z : List Int, z.Sublist w ∧ toN z = y := by
  obtain ⟨z, h1, h2⟩ := List.sublist_map_iff.1 h
  exact ⟨z, h1, h2.symm⟩
theorem img_eqv (hc : CartanP c) {x y : List Int} (hx : Lets c.length x) (hy : Lets c.length y) (lx : x.length ≤ 30) (ly : y.length ≤ 30) : Cox.Eqv c.length (ent c) (toN x) (toN y) ↔ image c x = image c y := by
  have n1 := image_num hc hx lx
  have n2 := image_num hc hy ly
  constructor
  · intro h
    exact num_ext (image_len hc hx lx) (image_len hc hy ly) (fun k hk => by rw [n1 k hk, n2 k hk, h.m])
  · intro h
    exact Cox.same_eqv hc.car (toN_lets hx) (toN_lets hy) (fun k hk => by rw [← n1 k hk, ← n2 k hk, h])
theorem len_red (hc : CartanP c) {x : List Int} (hx : Lets c.length x) (lx : x.length ≤ 24) (hl : (normL c x).length = x.length) : Cox.Red c.length (ent c) (toN x) := fun u hu he => by
  rw [toN_len]
  by_cases hu30 : u.length ≤ 30
  · have him : Im c (image c x) u.length := ⟨image_len hc hx (by omega), u, hu, rfl, fun k hk => by rw [image_num hc hx (by omega) k hk, he.m]⟩
    have := nf_len (down_im hc) u.length ⟨him, hu30⟩
    unfold normL at hl
    omega
  · omega
theorem norm_is (hc : CartanP c) {x : List Int} (hx : Lets c.length x) (lx : x.length ≤ 24) : Nf c (normL c x) ∧ image c (normL c x) = image c x := by
  have e := nf_image hc x.length (image_im hc hx (by omega)) (by omega)
  have h1 := normL_lets hc hx (by omega)
  have h2 := normL_le hc hx (by omega)
  exact ⟨⟨h1, by omega, by show nf c 30 (image c (nf c 30 (image c x))) = normL c x; rw [e]; rfl⟩, e⟩
theorem red_len (hc : CartanP c) {x : List Int} (hx : Lets c.length x) (lx : x.length ≤ 24) (hr : Cox.Red c.length (ent c) (toN x)) : (normL c x).length = x.length := by
  obtain ⟨h1, h2⟩ := norm_is hc hx lx
  have := hr (toN (normL c x)) (toN_lets h1.lets) ((img_eqv hc hx h1.lets (by omega) (by have := h1.le; omega)).2 h2.symm)
  rw [toN_len, toN_len] at this
  have := normL_le hc hx (by omega)
  omega
theorem Nf.red (hc : CartanP c) {x : List Int} (h : Nf c x) : Cox.Red c.length (ent c) (toN x) := len_red hc h.lets h.le (by rw [h.nf])
/-- The elements below w. -/
structure Blw (c : List (List Int)) (w y : List Int) : Prop where
  nf : Nf c y
  part : PtL c (image c y) w
theorem Blw.le (hc : CartanP c) {w y : List Int} (hw : Lets c.length w) (lw : w.length ≤ 24) (h : Blw c w y) : y.length ≤ w.length := by
  obtain ⟨z, z1, z2⟩ := h.part
  have hz := lets_subL hw z1
  have := z1.length_le
  have h2 := normL_le hc hz (by omega)
  unfold normL at h2
  rw [z2] at h2
  have h3 := h.nf.nf
  unfold normL at h3
  rw [h3] at h2
  omega
/-- Parts carry over to another word of the element. -/
theorem part_over (hc : CartanP c) {w y z : List Int} (hw : Lets c.length w) (lw : w.length ≤ 24) (hy : Lets c.length y) (ly : y.length ≤ 24) (hr : Cox.Red c.length (ent c) (toN w)) (he : image c y = image c w) (hz : z.Sublist w) : PtL c (image c z) y := by
  have hzl := lets_subL hw hz
  have lz := hz.length_le
  obtain ⟨z', s1, s2, s3⟩ := Cox.red_sub hc.car (toN_lets hzl)
  obtain ⟨y', t1, t2⟩ := Cox.part_any hc.car (toN_lets hw) hr (toN w).length (s1.trans (toN_sub hz)) s2 (by omega) (toN y) (toN_lets hy) ((img_eqv hc hy hw (by omega) (by omega)).2 he)
  obtain ⟨u, u1, rfl⟩ := sub_toN t1
  have := u1.length_le
  exact ⟨u, u1, (img_eqv hc (lets_subL hy u1) hzl (by omega) (by omega)).1 (t2.trans s3)⟩
theorem Blw.down (hc : CartanP c) {w y z : List Int} (hw : Lets c.length w) (lw : w.length ≤ 24) (h : Blw c w y) (hz : z.Sublist y) : Blw c w (normL c z) := by
  have hzl := lets_subL h.nf.lets hz
  have := hz.length_le
  have hle := h.nf.le
  obtain ⟨n1, n2⟩ := norm_is hc hzl (by omega)
  obtain ⟨y1, p1, p2⟩ := h.part
  have := p1.length_le
  obtain ⟨z', q1, q2⟩ := part_over hc h.nf.lets hle (lets_subL hw p1) (by omega) (h.nf.red hc) p2 hz
  exact ⟨n1, z', q1.trans p1, by rw [n2, q2]⟩
theorem sub_erase {α : Type} : ∀ {z l : List α}, z.Sublist l → z.length + 1 = l.length → ∃ k, k < l.length ∧ z = l.eraseIdx k
  | _, _, List.Sublist.slnil, h => by simp at h
  | z, a :: l, List.Sublist.cons _ hs, h => ⟨0, by simp, by simpa using hs.eq_of_length_le (by simp at h; omega)⟩
  | _ :: z, a :: l, List.Sublist.cons_cons _ hs, h => by
    obtain ⟨k, h1, h2⟩ := sub_erase hs (by simpa using h)
    exact ⟨k + 1, by simp; omega, by simp [h2]⟩

/-! Covers, by the reference. -/
def covF (c : List (List Int)) (x : List Int) (out : List (List Int)) (k : Nat) : List (List Int) := if (normL c (x.eraseIdx k)).length + 1 = x.length then putE (normL c (x.eraseIdx k)) out else out
def covL (c : List (List Int)) (x : List Int) : List (List Int) := (List.range x.length).foldl (covF c x) []
theorem mem_covF {x y : List Int} : ∀ (m : Nat), y ∈ (List.range m).foldl (covF c x) [] ↔ ∃ k, k < m ∧ (normL c (x.eraseIdx k)).length + 1 = x.length ∧ y = normL c (x.eraseIdx k)
  | 0 => by simp
  | m + 1 => by
    rw [List.range_succ, List.foldl_append]
    show y ∈ covF c x ((List.range m).foldl (covF c x) []) m ↔ _
    unfold covF
    have ih := mem_covF (x := x) (y := y) m
    unfold covF at ih
    by_cases h : (normL c (x.eraseIdx m)).length + 1 = x.length
    · rw [if_pos h, mem_putE, ih]
      constructor
      · rintro (rfl | ⟨k, h1, h2⟩)
        · exact ⟨m, by omega, h, rfl⟩
        · exact ⟨k, by omega, h2⟩
      · rintro ⟨k, h1, h2, h3⟩
        rcases Nat.lt_or_ge k m with h4 | h4
        · exact .inr ⟨k, h4, h2, h3⟩
        · have : k = m := by omega
          subst this
          exact .inl h3
    · rw [if_neg h, ih]
      constructor
      · rintro ⟨k, h1, h2⟩; exact ⟨k, by omega, h2⟩
      · rintro ⟨k, h1, h2, h3⟩
        rcases Nat.lt_or_ge k m with h4 | h4
        · exact ⟨k, h4, h2, h3⟩
        · have : k = m := by omega
          subst this
          exact absurd h2 h
theorem mem_covL {x y : List Int} : y ∈ covL c x ↔ ∃ k, k < x.length ∧ (normL c (x.eraseIdx k)).length + 1 = x.length ∧ y = normL c (x.eraseIdx k) := mem_covF _
theorem putE_len (v : List Int) : ∀ l : List (List Int), (putE v l).length ≤ l.length + 1
  | [] => by simp [putE]
  | x :: l => by
    have := putE_len v l
    unfold putE
    split
    · simp
    · split
      · simp
      · simp; omega
theorem covF_len {x : List Int} : ∀ (m : Nat), ((List.range m).foldl (covF c x) []).length ≤ m
  | 0 => by simp
  | m + 1 => by
    rw [List.range_succ, List.foldl_append]
    show (covF c x ((List.range m).foldl (covF c x) []) m).length ≤ m + 1
    have := covF_len (x := x) m
    unfold covF at this ⊢
    split
    · have := putE_len (normL c (x.eraseIdx m)) ((List.range m).foldl (covF c x) [])
      unfold covF at this
      omega
    · omega
/-- The reference's search. -/
def loRow : List (List Int) → List (List Int) → Option (List (List Int))
  | [], q => some q
  | y :: l, q => if y ∈ q then loRow l q else if 200 ≤ q.length then none else loRow l (q ++ [y])
def loBfs (c : List (List Int)) : Nat → Nat → List (List Int) → Option (List (List Int))
  | 0, _, q => some q
  | f + 1, k, q => match q[k]? with
    | none => some q
    | some x => match loRow (covL c x) q with
      | none => none
      | some q' => loBfs c f (k + 1) q'
def lowS (c : List (List Int)) (w : List Int) : Option (List (List Int)) := loBfs c 201 0 [w]
/-- There are too many of them. -/
def Many (T : List Int → Prop) : Prop := ∃ l : List (List Int), l.Nodup ∧ 200 < l.length ∧ ∀ x ∈ l, T x
theorem loRow_ok {T : List Int → Prop} : ∀ {l q : List (List Int)}, q.Nodup → (∀ x ∈ q, T x) → (∀ x ∈ l, T x) → q.length ≤ 200 →
    match loRow l q with
    | none => Many T
    | some q' => q'.Nodup ∧ (∀ x ∈ q', T x) ∧ q'.length ≤ 200 ∧ (∀ x ∈ l, x ∈ q') ∧ ∃ r, q' = q ++ r
  | [], q, h1, h2, _, h4 => ⟨h1, h2, h4, fun _ hx => by simp at hx, [], by simp⟩
  | y :: l, q, h1, h2, h3, h4 => by
    unfold loRow
    by_cases hy : y ∈ q
    · rw [if_pos hy]
      have ih := loRow_ok (l := l) h1 h2 (fun x hx => h3 x (List.mem_cons_of_mem _ hx)) h4
      cases e : loRow l q with
      | none => rw [e] at ih; exact ih
      | some q' =>
        rw [e] at ih
        obtain ⟨a1, a2, a3, a4, r, a5⟩ := ih
        refine ⟨a1, a2, a3, fun x hx => ?_, r, a5⟩
        rcases List.mem_cons.1 hx with rfl | hx
        · rw [a5]; exact List.mem_append_left _ hy
        · exact a4 x hx
    · rw [if_neg hy]
      have hn : (q ++ [y]).Nodup := List.nodup_append.2 ⟨h1, by simp, fun a ha b hb => by simp at hb; subst hb; exact fun e => hy (e ▸ ha)⟩
      have hT : ∀ x ∈ q ++ [y], T x := fun x hx => by
        rcases List.mem_append.1 hx with hx | hx
        · exact h2 x hx
        · simp at hx; subst hx; exact h3 x (by simp)
      by_cases hl : 200 ≤ q.length
      · rw [if_pos hl]
        exact ⟨q ++ [y], hn, by simp; omega, hT⟩
      · rw [if_neg hl]
        have ih := loRow_ok (l := l) hn hT (fun x hx => h3 x (List.mem_cons_of_mem _ hx)) (by simp; omega)
        cases e : loRow l (q ++ [y]) with
        | none => rw [e] at ih; exact ih
        | some q' =>
          rw [e] at ih
          obtain ⟨a1, a2, a3, a4, r, a5⟩ := ih
          refine ⟨a1, a2, a3, fun x hx => ?_, y :: r, by rw [a5]; simp⟩
          rcases List.mem_cons.1 hx with rfl | hx
          · rw [a5]; simp
          · exact a4 x hx
theorem loBfs_ok {T : List Int → Prop} (hT : ∀ x, T x → ∀ y ∈ covL c x, T y) {s : List Int} : ∀ (f k : Nat) {q : List (List Int)}, 201 ≤ f + k → k ≤ q.length → q.Nodup → (∀ x ∈ q, T x) → q.length ≤ 200 → s ∈ q →
    (∀ (j : Nat) (x : List Int), j < k → q[j]? = some x → ∀ y ∈ covL c x, y ∈ q) →
    match loBfs c f k q with
    | none => Many T
    | some q' => q'.Nodup ∧ (∀ x ∈ q', T x) ∧ q'.length ≤ 200 ∧ s ∈ q' ∧ ∀ x ∈ q', ∀ y ∈ covL c x, y ∈ q'
  | 0, k, q, h1, h2, _, _, h5, _, _ => by omega
  | f + 1, k, q, h1, h2, h3, h4, h5, h6, h7 => by
    unfold loBfs
    cases e : q[k]? with
    | none =>
      have hk : q.length ≤ k := List.getElem?_eq_none_iff.1 e
      refine ⟨h3, h4, h5, h6, fun x hx y hy => ?_⟩
      obtain ⟨j, hj⟩ := List.getElem?_of_mem hx
      have := (List.getElem?_eq_some_iff.1 hj).1
      exact h7 j x (by omega) hj y hy
    | some x =>
      have hk : k < q.length := (List.getElem?_eq_some_iff.1 e).1
      have hr := loRow_ok (l := covL c x) (q := q) h3 h4 (hT x (h4 x (List.mem_of_getElem? e))) h5
      show match (match loRow (covL c x) q with | none => none | some q' => loBfs c f (k + 1) q') with | none => Many T | some q' => _
      cases e2 : loRow (covL c x) q with
      | none => rw [e2] at hr; exact hr
      | some q' =>
        rw [e2] at hr
        obtain ⟨a1, a2, a3, a4, r, a5⟩ := hr
        refine loBfs_ok hT f (k + 1) (by omega) (by rw [a5]; simp; omega) a1 a2 a3 (by rw [a5]; exact List.mem_append_left _ h6) (fun j z hj hz y hy => ?_)
        rcases Nat.lt_or_ge j k with h | h
        · rw [a5, List.getElem?_append_left (by omega)] at hz
          rw [a5]
          exact List.mem_append_left _ (h7 j z h hz y hy)
        · have : j = k := by omega
          subst this
          rw [a5, List.getElem?_append_left hk, e, Option.some.injEq] at hz
          subst hz
          exact a4 y hy
/-- A list that holds w and the covers of what it holds has all elements below w. -/
theorem low_reach (hc : CartanP c) {q : List (List Int)} (hq : ∀ x ∈ q, ∀ y ∈ covL c x, y ∈ q) {u : List Int} (hu : Nf c u) : ∀ (m : Nat) {v : List Int}, v.length ≤ m → Nf c v → v ∈ q → PtL c (image c u) v → u ∈ q := by
  intro m
  induction m with
  | zero =>
    intro v hm hv hvq hp
    obtain ⟨z, z1, z2⟩ := hp
    have hv0 : v = [] := List.eq_nil_of_length_eq_zero (by omega)
    subst hv0
    have hz0 : z = [] := by simpa using z1
    subst hz0
    rw [hu.inj hv z2.symm]
    exact hvq
  | succ m ih =>
    intro v hm hv hvq hp
    obtain ⟨z, z1, z2⟩ := hp
    have lv := hv.le
    have lz := z1.length_le
    have hzl := lets_subL hv.lets z1
    obtain ⟨z', s1, s2, s3⟩ := Cox.red_sub hc.car (toN_lets hzl)
    obtain ⟨x, x1, rfl⟩ := sub_toN s1
    have lx := x1.length_le
    have hxl := lets_subL hzl x1
    have ex : image c x = image c u := by rw [← z2]; exact (img_eqv hc hxl hzl (by omega) (by omega)).1 s3
    by_cases hlt : x.length < v.length
    · obtain ⟨y, y1, y2, y3, x', t1, t2⟩ := Cox.part_cover hc.car (toN_lets hv.lets) (hv.red hc) (toN v).length (toN_sub (x1.trans z1)) s2 (by rw [toN_len, toN_len]; exact hlt) (by omega)
      obtain ⟨d, d1, rfl⟩ := sub_toN y1
      rw [toN_len, toN_len] at y2
      obtain ⟨x2, e1, rfl⟩ := sub_toN t1
      have ld := d1.length_le
      have lx2 := e1.length_le
      have hdl := lets_subL hv.lets d1
      have hx2l := lets_subL hdl e1
      have ex2 : image c x2 = image c u := by rw [← ex]; exact (img_eqv hc hx2l hxl (by omega) (by omega)).1 t2
      obtain ⟨k, k1, k2⟩ := sub_erase d1 y2
      have hlen := red_len hc hdl (by omega) y3
      obtain ⟨n1, n2⟩ := norm_is hc hdl (by omega)
      have hcov : normL c d ∈ covL c v := mem_covL.2 ⟨k, k1, by rw [← k2]; omega, by rw [k2]⟩
      have hp2 := part_over hc hdl (by omega) n1.lets n1.le y3 n2 e1
      rw [ex2] at hp2
      exact ih (by omega) n1 (hq v hvq _ hcov) hp2
    · have hxv : x = v := (x1.trans z1).eq_of_length_le (by omega)
      subst hxv
      rw [hu.inj hv ex.symm]
      exact hvq
theorem lowS_ok (hc : CartanP c) {w : List Int} (hw : Nf c w) :
    match lowS c w with
    | none => Many (Blw c w)
    | some q => q.Nodup ∧ q.length ≤ 200 ∧ ∀ x, x ∈ q ↔ Blw c w x := by
  have hself : Blw c w w := ⟨hw, w, List.Sublist.refl _, rfl⟩
  have h := loBfs_ok (c := c) (T := Blw c w) (fun x hx y hy => by
    obtain ⟨k, k1, k2, rfl⟩ := mem_covL.1 hy
    exact hx.down hc hw.lets hw.le (List.eraseIdx_sublist x k)) (s := w) 201 0 (q := [w]) (by omega) (by simp) (by simp) (fun x hx => by simp at hx; subst hx; exact hself) (by simp) (by simp) (fun j x hj => by omega)
  unfold lowS
  cases e : loBfs c 201 0 [w] with
  | none => rw [e] at h; exact h
  | some q =>
    rw [e] at h
    obtain ⟨a1, a2, a3, a4, a5⟩ := h
    exact ⟨a1, a3, fun x => ⟨a2 x, fun hx => low_reach hc a5 hx.nf w.length (Nat.le_refl _) hw a4 hx.part⟩⟩

/-! The program's search. -/
def liF (c : List (List Int)) (i : Int) (out : List (List Int)) (x : List Int) : List (List Int) := if normL c (x ++ [i]) ∈ out then out else out ++ [normL c (x ++ [i])]
def liBfs (c : List (List Int)) : List Int → List (List Int) → Option (List (List Int))
  | [], out => some out
  | i :: w, out => if 200 < (out.foldl (liF c i) out).length then none else liBfs c w (out.foldl (liF c i) out)
def lowI (c : List (List Int)) (w : List Int) : Option (List (List Int)) := liBfs c w [[]]
theorem liF_nd {i : Int} {out : List (List Int)} {x : List Int} (h : out.Nodup) : (liF c i out x).Nodup := by
  unfold liF
  split
  · exact h
  · rename_i hn
    exact List.nodup_append.2 ⟨h, by simp, fun a ha b hb => by simp at hb; subst hb; exact fun e => hn (e ▸ ha)⟩
theorem mem_liF {i : Int} {out : List (List Int)} {x y : List Int} : y ∈ liF c i out x ↔ y ∈ out ∨ y = normL c (x ++ [i]) := by
  unfold liF
  split
  · rename_i h
    exact ⟨.inl, fun h' => h'.elim id (fun e => e ▸ h)⟩
  · simp
theorem liRow_ok {i : Int} : ∀ {X out : List (List Int)}, out.Nodup → (X.foldl (liF c i) out).Nodup ∧ ∀ y, y ∈ X.foldl (liF c i) out ↔ y ∈ out ∨ ∃ x ∈ X, y = normL c (x ++ [i])
  | [], out, h => ⟨h, fun y => by simp⟩
  | x :: X, out, h => by
    obtain ⟨h1, h2⟩ := liRow_ok (X := X) (liF_nd (c := c) (i := i) (x := x) h)
    refine ⟨h1, fun y => ?_⟩
    rw [List.foldl_cons, h2, mem_liF]
    simp only [List.mem_cons, exists_eq_or_imp]
    exact ⟨fun h => h.elim (fun h => h.elim .inl (fun e => .inr (.inl e))) (fun h => .inr (.inr h)), fun h => h.elim (fun h => .inl (.inl h)) (fun h => h.elim (fun e => .inl (.inr e)) .inr)⟩
theorem blw_snoc (hc : CartanP c) {pre : List Int} {i : Int} (hp : Lets c.length pre) (hi : Lets c.length [i]) (lp : pre.length ≤ 23) {y : List Int} : Blw c (pre ++ [i]) y ↔ Blw c pre y ∨ ∃ x, Blw c pre x ∧ y = normL c (x ++ [i]) := by
  constructor
  · intro h
    obtain ⟨z, z1, z2⟩ := h.part
    obtain ⟨a, b, rfl, ha, hb⟩ := List.sublist_append_iff.1 z1
    rcases List.sublist_cons_iff.1 hb with hb | ⟨r, rfl, hr⟩
    · have : b = [] := by simpa using hb
      subst this
      exact .inl ⟨h.nf, a, ha, by simpa using z2⟩
    · have : r = [] := by simpa using hr
      subst this
      have hal := lets_subL hp ha
      have la := ha.length_le
      obtain ⟨n1, n2⟩ := norm_is hc hal (by omega)
      refine .inr ⟨normL c a, ⟨n1, a, ha, n2.symm⟩, ?_⟩
      have ln := normL_le hc hal (by omega)
      have e := image_app hc n1.lets hal hi (by simp; omega) (by simp; omega) n2
      rw [← h.nf.nf]
      unfold normL
      rw [← z2]
      exact congrArg (nf c 30) e.symm
  · rintro (h | ⟨x, hx, rfl⟩)
    · obtain ⟨z, z1, z2⟩ := h.part
      exact ⟨h.nf, z, z1.trans (List.sublist_append_left _ _), z2⟩
    · obtain ⟨z, z1, z2⟩ := hx.part
      have hzl := lets_subL hp z1
      have lz := z1.length_le
      have lx := hx.le hc hp (by omega)
      obtain ⟨n1, n2⟩ := norm_is hc (lets_app' hx.nf.lets hi) (by simp; omega)
      exact ⟨n1, z ++ [i], z1.append (List.Sublist.refl _), by rw [n2]; exact image_app hc hzl hx.nf.lets hi (by simp; omega) (by simp; omega) z2⟩
theorem liBfs_ok (hc : CartanP c) : ∀ (w : List Int) {pre : List Int} {out : List (List Int)}, Lets c.length (pre ++ w) → (pre ++ w).length ≤ 24 → out.Nodup → out.length ≤ 200 → (∀ y, y ∈ out ↔ Blw c pre y) →
    match liBfs c w out with
    | none => Many (Blw c (pre ++ w))
    | some o => o.Nodup ∧ o.length ≤ 200 ∧ ∀ y, y ∈ o ↔ Blw c (pre ++ w) y
  | [], pre, out, _, _, h1, h2, h3 => by rw [List.append_nil]; exact ⟨h1, h2, h3⟩
  | i :: w, pre, out, hl, hn, h1, h2, h3 => by
    have e : pre ++ i :: w = (pre ++ [i]) ++ w := by simp
    have hp : Lets c.length pre := fun x hx => hl x (by simp [hx])
    have hi : Lets c.length [i] := fun x hx => hl x (by simp at hx; simp [hx])
    have lp : pre.length ≤ 23 := by simp at hn; omega
    obtain ⟨r1, r2⟩ := liRow_ok (c := c) (i := i) (X := out) h1
    have r3 : ∀ y, y ∈ out.foldl (liF c i) out ↔ Blw c (pre ++ [i]) y := fun y => by
      rw [r2, blw_snoc hc hp hi lp, h3]
      exact ⟨fun h => h.elim .inl (fun ⟨x, hx, e⟩ => .inr ⟨x, (h3 x).1 hx, e⟩), fun h => h.elim .inl (fun ⟨x, hx, e⟩ => .inr ⟨x, (h3 x).2 hx, e⟩)⟩
    unfold liBfs
    rw [e] at hl hn ⊢
    by_cases hb : 200 < (out.foldl (liF c i) out).length
    · rw [if_pos hb]
      refine ⟨_, r1, hb, fun x hx => ?_⟩
      have := (r3 x).1 hx
      obtain ⟨z, z1, z2⟩ := this.part
      exact ⟨this.nf, z, z1.trans (List.sublist_append_left _ _), z2⟩
    · rw [if_neg hb]
      exact liBfs_ok hc w hl hn r1 (by omega) r3
theorem blw_nil (hc : CartanP c) {y : List Int} : y ∈ [([] : List Int)] ↔ Blw c [] y := by
  constructor
  · intro h
    simp at h
    subst h
    exact ⟨nf_nil hc, [], List.Sublist.refl _, rfl⟩
  · intro h
    have := h.le hc (fun x hx => by simp at hx) (by simp)
    simp at this
    simp [this]
theorem lowI_ok (hc : CartanP c) {w : List Int} (hw : Nf c w) :
    match lowI c w with
    | none => Many (Blw c w)
    | some q => q.Nodup ∧ q.length ≤ 200 ∧ ∀ x, x ∈ q ↔ Blw c w x := by
  have := liBfs_ok hc w (pre := []) (out := [[]]) (by simpa using hw.lets) (by simpa using hw.le) (by simp) (by simp) (fun y => blw_nil hc)
  rw [List.nil_append] at this
  exact this
theorem many_not {T : List Int → Prop} (hm : Many T) {q : List (List Int)} (hl : q.length ≤ 200) (hq : ∀ x, T x → x ∈ q) : False := by
  obtain ⟨l, h1, h2, h3⟩ := hm
  have := nd_le h1 (fun x hx => hq x (h3 x hx))
  omega
/-- Both searches tell the same, and find the same. -/
theorem low_same (hc : CartanP c) {w : List Int} (hw : Nf c w) : ((lowS c w).isSome = (lowI c w).isSome) ∧ ∀ q o, lowS c w = some q → lowI c w = some o → (∀ x, x ∈ q ↔ x ∈ o) := by
  have h1 := lowS_ok hc hw
  have h2 := lowI_ok hc hw
  cases e1 : lowS c w with
  | none =>
    rw [e1] at h1
    cases e2 : lowI c w with
    | none => exact ⟨rfl, fun q o h => by cases h⟩
    | some o => rw [e2] at h2; exact (many_not h1 h2.2.1 (fun x hx => (h2.2.2 x).2 hx)).elim
  | some q =>
    rw [e1] at h1
    cases e2 : lowI c w with
    | none => rw [e2] at h2; exact (many_not h2 h1.2.1 (fun x hx => (h1.2.2 x).2 hx)).elim
    | some o =>
      rw [e2] at h2
      refine ⟨rfl, fun q' o' hq ho x => ?_⟩
      cases hq; cases ho
      rw [h1.2.2, h2.2.2]
end
end Go.Proofs.YtipjomdldjbenaaGreatDoor

/-! A word without one letter; the covers of an element, by the reference. Condition: sizes up to 2^24. -/
namespace Go.Proofs.YtipjomdldjbenaaGreatDoor
open Go.RowKit
set_option maxRecDepth 20000

def delTo (l : List Int) (k i : Nat) : List Int := (l.take i).eraseIdx k
theorem delTo_len (l : List Int) (k i : Nat) : (delTo l k i).length ≤ l.length := by
  have := (List.eraseIdx_sublist (l.take i) k).length_le
  unfold delTo
  rw [List.length_take] at this
  omega
theorem delTo_other {l : List Int} {k i : Nat} {x : Int} (h : l[i]? = some x) (hne : i ≠ k) : delTo l k (i + 1) = delTo l k i ++ [x] := by
  have hi := (List.getElem?_eq_some_iff.1 h).1
  unfold delTo
  rw [take_step h]
  rcases Nat.lt_or_ge k i with hk | hk
  · rw [List.eraseIdx_append_of_lt_length (by rw [List.length_take]; omega)]
  · rw [List.eraseIdx_of_length_le (by simp; omega), List.eraseIdx_of_length_le (by simp; omega)]
theorem delTo_same {l : List Int} {k i : Nat} {x : Int} (h : l[i]? = some x) (he : i = k) : delTo l k (i + 1) = delTo l k i := by
  subst he
  have hi := (List.getElem?_eq_some_iff.1 h).1
  unfold delTo
  have hlen : (l.take i).length = i := by rw [List.length_take]; omega
  rw [take_step h, List.eraseIdx_append_of_length_le (by omega), hlen, Nat.sub_self]
  show l.take i ++ [] = _
  rw [List.append_nil, List.eraseIdx_of_length_le (by omega)]

def brL (c : List (List Int)) (l : List Int) : List (List Int) := if isWd c l then covL c (normL c l) else []
def covTo (c : List (List Int)) (x : List Int) (k : Nat) : List (List Int) := (List.range k).foldl (covF c x) []
theorem covTo_step (c : List (List Int)) (x : List Int) (k : Nat) : covTo c x (k + 1) = covF c x (covTo c x k) k := by unfold covTo; rw [List.range_succ, List.foldl_append]; rfl
theorem covTo_mem {c : List (List Int)} (hc : CartanP c) {x : List Int} (hx : Lets c.length x) (lx : x.length ≤ 24) {k : Nat} (_hk : k ≤ x.length) : ∀ y ∈ covTo c x k, y.length ≤ 24 := fun y hy => by
  obtain ⟨m, _, _, rfl⟩ := (mem_covF k).1 hy
  have hs := List.eraseIdx_sublist x m
  have := hs.length_le
  have := normL_le hc (lets_subL hx hs) (by omega)
  omega
theorem covTo_len (c : List (List Int)) (x : List Int) (k : Nat) : (covTo c x k).length ≤ k := covF_len k

end Go.Proofs.YtipjomdldjbenaaGreatDoor

/-! The elements below a word, by the reference. Condition: sizes up to 2^24. -/
namespace Go.Proofs.YtipjomdldjbenaaGreatDoor
open Go.RowKit
set_option maxRecDepth 20000

def lwQ (c : List (List Int)) (l : List Int) : Option (List (List Int)) := if isWd c l then lowS c (normL c l) else none
def lwOk (c : List (List Int)) (l : List Int) : Bool := (lwQ c l).isSome
def lwR (c : List (List Int)) (l : List Int) : List (List Int) := putsE ((lwQ c l).getD [])
theorem loBfs_at {c : List (List Int)} {f k : Nat} {q : List (List Int)} {x : List Int} (h : q[k]? = some x) : loBfs c (f + 1) k q = (match loRow (covL c x) q with | none => none | some q' => loBfs c f (k + 1) q') := by
  show (match q[k]? with | none => some q | some x => _) = _
  first | (rw [h]; done) | (rw [h]; rfl)
theorem loBfs_end {c : List (List Int)} {f k : Nat} {q : List (List Int)} (h : q.length ≤ k) : loBfs c f k q = some q := by
  cases f with
  | zero => rfl
  | succ f => show (match q[k]? with | none => some q | some x => _) = _; rw [List.getElem?_eq_none h]
theorem HSx.bothR {A : Nat → Prop} {w0 w : World} {Ps : List Thing} {Z Y : Zl} (h : HSx A w0 w Ps) (i j : Nat) (hij : i ≠ j) (hi : Ps[i]? = some (aRr Z)) (hj : Ps[j]? = some (aRr Y)) : HSx A w0 w ((Ps.set i (aRr (Z ++ Y))).set j aTrue) :=
  h.join i j hij hi hj (st_Rr _) fun F G hF hG _ x hx => by
    rcases List.mem_append.1 hx with hx | hx
    · exact RI.mono (hF x hx) (fun b hb => .inl hb)
    · exact RI.mono (hG x hx) (fun b hb => .inr hb)
theorem HSx.readP {A : Nat → Prop} {w0 w : World} {Ps : List Thing} {v : Value} {Z P : Zl} (h : HSx A w0 w Ps) (i j : Nat) (hij : i ≠ j) (hi : Ps[i]? = some (aV 28 v (Z.map Prod.fst))) (hj : Ps[j]? = some (aRr P)) (hsub : ∀ z ∈ Z, z ∈ P) : RII Any w v (Z.map Prod.snd) := by
  have h1 := h.imp j hj (st_Rr Z) (fun F hF x hx => hF x (hsub x hx))
  exact h1.readRr i j (by rw [List.getElem?_set_ne (Ne.symm hij)]; exact hi) (by rw [List.getElem?_set_self (List.getElem?_eq_some_iff.1 hj).1])
/-- Words that the search meets. -/
def Nf15 (c : List (List Int)) (x : List Int) : Prop := Nf c x ∧ x.length ≤ 15
theorem cov15 {c : List (List Int)} (hc : CartanP c) {x : List Int} (h : Nf15 c x) : ∀ y ∈ covL c x, Nf15 c y := fun y hy => by
  obtain ⟨k, h1, h2, rfl⟩ := mem_covL.1 hy
  have hs := List.eraseIdx_sublist x k
  have := hs.length_le
  have hl := h.2
  exact ⟨(norm_is hc (lets_subL h.1.lets hs) (by omega)).1, by omega⟩
theorem covL_len (c : List (List Int)) (x : List Int) : (covL c x).length ≤ x.length := covF_len x.length
theorem wd15 {c : List (List Int)} (hc : isC c = true) {x : List Int} (h : Nf15 c x) : isWd c x = true := by
  unfold isWd
  simp only [Bool.and_eq_true, decide_eq_true_eq]
  refine ⟨⟨hc, h.2⟩, allB_iff.2 fun y hy => ?_⟩
  have := h.1.lets y hy
  unfold ptB inR
  simp
  omega
theorem br15 {c : List (List Int)} (hc : isC c = true) {x : List Int} (h : Nf15 c x) : brL c x = covL c x := by
  unfold brL
  rw [wd15 hc h, if_pos rfl, h.1.nf]

end Go.Proofs.YtipjomdldjbenaaGreatDoor
