/- Parts of reduced words: they do not depend on the word, and from each there is a way up, letter by letter. Plain. No condition. -/
import Derived.Test.YtipjomdldjbenaaJGFin
namespace Go.Proofs.Ytipjomdldjbenaa
open Go.RowKit
set_option maxRecDepth 20000

namespace Cox
variable {n : Nat} {c : Nat → Nat → Int}
theorem lets_cons {i : Nat} {w : List Nat} (hi : i < n) (hw : Lets n w) : Lets n (i :: w) := fun j hj => by
  rcases List.mem_cons.1 hj with rfl | hj
  · exact hi
  · exact hw j hj
theorem lets_sub {x w : List Nat} (hw : Lets n w) (hx : x.Sublist w) : Lets n x := fun j hj => hw j (hx.subset hj)
theorem lets_one {i : Nat} (hi : i < n) : Lets n [i] := lets_cons hi (fun j hj => by simp at hj)
theorem eqv_cut (h : Car n c) : ∀ {w : List Nat}, Lets n w → Eqv n c (w ++ w.reverse) []
  | [], _ => Eqv.refl _
  | i :: w, hw => by
    have hi : i < n := hw i (by simp)
    have ih := eqv_cut h (w := w) (fun j hj => hw j (by simp [hj]))
    have e : (i :: w) ++ (i :: w).reverse = [i] ++ ((w ++ w.reverse) ++ [i]) := by simp
    rw [e]
    exact ((Eqv.refl [i]).app (ih.app (Eqv.refl [i]))).trans (Eqv.two h hi)
theorem eqv_cut' (h : Car n c) {w : List Nat} (hw : Lets n w) : Eqv n c (w.reverse ++ w) [] := by
  have := eqv_cut h (lets_rev hw)
  rwa [List.reverse_reverse] at this
theorem eqvL_rev (h : Car n c) {a b : List Nat} (ha : Lets n a) (hb : Lets n b) (k : Eqv n c a b) : Eqv n c a.reverse b.reverse := by
  have h1 : Eqv n c (a.reverse ++ []) (a.reverse ++ (b ++ b.reverse)) := (Eqv.refl _).app (eqv_cut h hb).symm
  have h2 : Eqv n c (a.reverse ++ (b ++ b.reverse)) (a.reverse ++ (a ++ b.reverse)) := (Eqv.refl _).app (k.symm.app (Eqv.refl _))
  have h3 : Eqv n c ((a.reverse ++ a) ++ b.reverse) ([] ++ b.reverse) := (eqv_cut' h ha).app (Eqv.refl _)
  rw [List.append_nil] at h1
  rw [List.append_assoc] at h3
  exact h1.trans (h2.trans h3)
/-- No shorter word is a word of the same element. -/
def Red (n : Nat) (c : Nat → Nat → Int) (w : List Nat) : Prop := ∀ u, Lets n u → Eqv n c w u → w.length ≤ u.length
theorem pos_neg (h : Car n c) {w : List Nat} (hw : Lets n w) {s : Nat} (hs : s < n) (hp : PosA n c w s) (hn : NegA n c w s) : False := by
  have hb := bil_inv h (e s) (e s) hw
  rw [bil_e hs hs, h.diag s hs] at hb
  unfold bil at hb
  rw [dotN_zero (fun k hk => by have a := hp.2 k hk; have b := hn.2 k hk; omega)] at hb
  omega
theorem sR_self (h : Car n c) {j : Nat} (hj : j < n) : sR n c j (e j) = fun k => (-1) * e j k + 0 * e j k := by
  funext k
  unfold sR
  rw [dotN_e _ _ _ hj, h.diag j hj]
  omega
theorem neg_snoc (h : Car n c) {w : List Nat} {j : Nat} (hj : j < n) (hp : PosA n c w j) : NegA n c (w ++ [j]) j := by
  have one : ∀ {d : Nat → Nat → Int}, Car n d → Pos n (aR n d w (e j)) → Neg n (aR n d (w ++ [j]) (e j)) := fun {d} hd hq k hk => by
    rw [aR_append]
    show aR n d w (sR n d j (e j)) k ≤ 0
    rw [sR_self hd hj, aR_lin]
    have := hq k hk
    show -1 * aR n d w (e j) k + 0 * aR n d w (e j) k ≤ 0
    omega
  exact ⟨one h hp.1, one h.tr hp.2⟩
theorem negA_congr {w w' : List Nat} {s : Nat} (h : Eqv n c w w') (k : NegA n c w' s) : NegA n c w s := by
  refine ⟨?_, ?_⟩
  · rw [h.r]; exact k.1
  · rw [h.x]; exact k.2
/-- The exchange ahead of a word that keeps the root positive. -/
theorem exchange_pre (h : Car n c) {s : Nat} (hs : s < n) {p : List Nat} (hp : Lets n p) (hpos : PosA n c p s) : ∀ {a : List Nat}, Lets n a → NegA n c (a ++ p) s → ∃ a', Lets n a' ∧ a'.length + 1 = a.length ∧ a'.Sublist a ∧ Eqv n c (a ++ p ++ [s]) (a' ++ p)
  | [], _, hn => absurd hn (fun hn => pos_neg h hp hs hpos hn)
  | k :: y, ha, hn => by
    have hk : k < n := ha k (by simp)
    have hy : Lets n y := fun j hj => ha j (by simp [hj])
    have hyp : Lets n (y ++ p) := lets_app hy hp
    rcases coh h hyp hs with hq | hn'
    · have hr := one_letter hq.1 hn.1 (fun j hj => by rw [aR_out hj _ hyp, e_out hs hj])
      have hx := one_letter (c := tr c) hq.2 hn.2 (fun j hj => by rw [aR_out hj _ hyp, e_out hs hj])
      have hb := bil_inv h (e s) (e s) hyp
      rw [hr, hx, bil_scale, bil_e hk hk, bil_e hs hs, h.diag k hk, h.diag s hs] at hb
      have p1 := hq.1 k hk
      generalize aR n c (y ++ p) (e s) k = a at *
      generalize aR n (tr c) (y ++ p) (e s) k = b at *
      have hab : b * a = 1 := by omega
      have ha : a = 1 := Int.eq_one_of_mul_eq_one_left p1 hab
      have hb1 : b = 1 := by rw [ha] at hab; omega
      subst ha; subst hb1
      have h1 : aR n c (y ++ p) (e s) = e k := by rw [hr]; funext j; simp
      have h2 : aR n (tr c) (y ++ p) (e s) = e k := by rw [hx]; funext j; simp
      refine ⟨y, hy, by simp, List.sublist_cons_self _ _, ?_⟩
      have h3 := comm h hyp hs hk h1 h2
      have h4 : Eqv n c (k :: ((y ++ p) ++ [s])) ([k] ++ (k :: (y ++ p))) := (Eqv.refl [k]).app h3
      have h5 : Eqv n c ([k, k] ++ (y ++ p)) ([] ++ (y ++ p)) := (Eqv.two h hk).app (Eqv.refl _)
      exact h4.trans h5
    · obtain ⟨a', h1, h2, h3, h4⟩ := exchange_pre h hs hp hpos hy hn'
      exact ⟨k :: a', lets_cons hk h1, by simp; omega, List.Sublist.cons_cons k h3, (Eqv.refl [k]).app h4⟩
/-- Each word of z has a part, one letter shorter, that is a word of x. -/
def Dn (n : Nat) (c : Nat → Nat → Int) (z x : List Nat) : Prop := ∀ y, Lets n y → Eqv n c y z → ∃ y', y'.Sublist y ∧ y'.length + 1 = y.length ∧ Eqv n c y' x
theorem down_of (h : Car n c) {p x' : List Nat} {j : Nat} (hj : j < n) (hp : Lets n p) (hx : Lets n x') (h1 : PosA n c p j) (h2 : PosA n c x'.reverse j) : Dn n c (p ++ j :: x') (p ++ x') := by
  intro y hy he
  have hz : Lets n (p ++ j :: x') := lets_app hp (lets_cons hj hx)
  have e1 := eqvL_rev h hy hz he
  have e2 : (p ++ j :: x').reverse = (x'.reverse ++ [j]) ++ p.reverse := by simp
  rw [e2] at e1
  have e3 : Eqv n c (y.reverse ++ p) (x'.reverse ++ [j]) := by
    have a := e1.app (Eqv.refl p)
    have b : Eqv n c ((x'.reverse ++ [j]) ++ (p.reverse ++ p)) ((x'.reverse ++ [j]) ++ []) := (Eqv.refl _).app (eqv_cut' h hp)
    rw [List.append_nil] at b
    rw [List.append_assoc (x'.reverse ++ [j])] at a
    exact a.trans b
  obtain ⟨a', b1, b2, b3, b4⟩ := exchange_pre h hj hp h1 (lets_rev hy) (negA_congr e3 (neg_snoc h hj h2))
  refine ⟨a'.reverse, by have := List.reverse_sublist.2 b3; simpa using this, by simp at b2 ⊢; omega, ?_⟩
  have f1 : Eqv n c (a' ++ p) x'.reverse := by
    have g1 := e3.app (Eqv.refl [j])
    have g2 : Eqv n c (x'.reverse ++ [j, j]) (x'.reverse ++ []) := (Eqv.refl _).app (Eqv.two h hj)
    rw [List.append_nil] at g2
    rw [List.append_assoc x'.reverse] at g1
    exact b4.symm.trans (g1.trans g2)
  have f2 : Eqv n c a' (x'.reverse ++ p.reverse) := by
    have g1 : Eqv n c ((a' ++ p) ++ p.reverse) (x'.reverse ++ p.reverse) := f1.app (Eqv.refl _)
    have g2 : Eqv n c (a' ++ (p ++ p.reverse)) (a' ++ []) := (Eqv.refl _).app (eqv_cut h hp)
    rw [List.append_nil] at g2
    rw [List.append_assoc] at g1
    exact g2.symm.trans g1
  have f3 := eqvL_rev h b1 (lets_app (lets_rev hx) (lets_rev hp)) f2
  rw [← List.reverse_append, List.reverse_reverse] at f3
  exact f3
/-- A letter that makes a word shorter takes away one of its letters. -/
theorem front_out (h : Car n c) {x : List Nat} (hx : Lets n x) {j : Nat} (hj : j < n) (hn : NegA n c x.reverse j) : ∃ x2, x2.Sublist x ∧ x2.length + 1 = x.length ∧ Eqv n c (j :: x) x2 := by
  obtain ⟨x2, a1, a2, a3, a4⟩ := exchange_sub h hj (lets_rev hx) hn
  have b4 := eqvL_rev h (lets_app (lets_rev hx) (lets_one hj)) a1 a4
  have e2 : (x.reverse ++ [j]).reverse = j :: x := by simp
  rw [e2] at b4
  exact ⟨x2.reverse, by have := List.reverse_sublist.2 a3; simpa using this, by simp at a2 ⊢; omega, b4⟩
/-- From a reduced part of a reduced word there is one more letter of it. -/
theorem up_step (h : Car n c) : ∀ (w' : List Nat) {p x' : List Nat}, Lets n (p ++ w') → x'.Sublist w' → Red n c (p ++ w') → Red n c (p ++ x') → x'.length < w'.length →
    ∃ z, z.Sublist (p ++ w') ∧ Red n c z ∧ z.length = p.length + x'.length + 1 ∧ Dn n c z (p ++ x')
  | [], _, _, _, _, _, _, hl => by simp at hl
  | j :: w1, p, x', hL, hs, hw, hx, hl => by
    have hj : j < n := hL j (by simp)
    have hp : Lets n p := fun i hi => hL i (by simp [hi])
    have hw1 : Lets n w1 := fun i hi => hL i (by simp [hi])
    have e : p ++ j :: w1 = (p ++ [j]) ++ w1 := by simp
    rcases List.sublist_cons_iff.1 hs with hs' | ⟨x1, rfl, hs1⟩
    · have hxl : Lets n x' := lets_sub hw1 hs'
      have hpos : PosA n c p j := by
        rcases coh h hp hj with h1 | h1
        · exact h1
        · exfalso
          obtain ⟨p', a1, a2, _, a4⟩ := exchange_sub h hj hp h1
          have := hw (p' ++ w1) (lets_app a1 hw1) (by rw [e]; exact a4.app (Eqv.refl _))
          simp at this
          omega
      rcases coh h (lets_rev hxl) hj with h2 | h2
      · have hD := down_of h hj hp hxl hpos h2
        refine ⟨p ++ j :: x', (List.Sublist.refl p).append (hs'.cons_cons j), fun u hu he => ?_, by simp; omega, hD⟩
        obtain ⟨u', b1, b2, b3⟩ := hD u hu he.symm
        have := hx u' (lets_sub hu b1) b3.symm
        simp at this ⊢
        omega
      · obtain ⟨x2, a3, a2, b4⟩ := front_out h hxl hj h2
        have f : Eqv n c (p ++ x') ((p ++ [j]) ++ x2) := by
          have g1 : Eqv n c (p ++ ([j, j] ++ x')) (p ++ ([] ++ x')) := (Eqv.refl p).app ((Eqv.two h hj).app (Eqv.refl _))
          have g2 : Eqv n c ((p ++ [j]) ++ (j :: x')) ((p ++ [j]) ++ x2) := (Eqv.refl _).app b4
          have g3 : p ++ ([j, j] ++ x') = (p ++ [j]) ++ (j :: x') := by simp
          rw [g3] at g1
          exact g1.symm.trans g2
        have hR : Red n c ((p ++ [j]) ++ x2) := fun u hu he => by
          have := hx u hu (f.trans he)
          simp at this ⊢
          omega
        obtain ⟨z, c1, c2, c3, c4⟩ := up_step h w1 (p := p ++ [j]) (x' := x2) (by rw [← e]; exact hL) (a3.trans hs') (by rw [← e]; exact hw) hR (by have := hs'.length_le; omega)
        refine ⟨z, by rw [e]; exact c1, c2, by simp at c3; omega, fun y hy he => ?_⟩
        obtain ⟨y', d1, d2, d3⟩ := c4 y hy he
        exact ⟨y', d1, d2, d3.trans f.symm⟩
    · have e3 : p ++ j :: x1 = (p ++ [j]) ++ x1 := by simp
      obtain ⟨z, c1, c2, c3, c4⟩ := up_step h w1 (p := p ++ [j]) (x' := x1) (by rw [← e]; exact hL) hs1 (by rw [← e]; exact hw) (by rw [← e3]; exact hx) (by simp at hl; omega)
      refine ⟨z, by rw [e]; exact c1, c2, by simp at c3 ⊢; omega, by rw [e3]; exact c4⟩
/-- Each word has a reduced part that is a word of its element. -/
theorem red_sub (h : Car n c) : ∀ {x : List Nat}, Lets n x → ∃ x', x'.Sublist x ∧ Red n c x' ∧ Eqv n c x' x
  | [], _ => ⟨[], List.Sublist.refl _, fun _ _ _ => Nat.zero_le _, Eqv.refl _⟩
  | s :: t, hx => by
    have hs : s < n := hx s (by simp)
    have ht : Lets n t := fun j hj => hx j (by simp [hj])
    obtain ⟨t', a1, a2, a3⟩ := red_sub h (x := t) ht
    have ht' := lets_sub ht a1
    rcases coh h (lets_rev ht') hs with h2 | h2
    · have hD := down_of h (p := []) hs (fun j hj => by simp at hj) ht' ⟨fun k _ => by show (0 : Int) ≤ Cox.e s k; unfold Cox.e; split <;> omega, fun k _ => by show (0 : Int) ≤ Cox.e s k; unfold Cox.e; split <;> omega⟩ h2
      refine ⟨s :: t', a1.cons_cons s, fun u hu he => ?_, (Eqv.refl [s]).app a3⟩
      obtain ⟨u', b1, b2, b3⟩ := hD u hu he.symm
      have := a2 u' (lets_sub hu b1) b3.symm
      simp
      omega
    · obtain ⟨x2, b3, b2, b4⟩ := front_out h ht' hs h2
      refine ⟨x2, (b3.trans a1).trans (List.sublist_cons_self _ _), fun u hu he => ?_, b4.symm.trans ((Eqv.refl [s]).app a3)⟩
      have g : Eqv n c t' (s :: u) := by
        have g1 : Eqv n c ([s, s] ++ t') ([] ++ t') := (Eqv.two h hs).app (Eqv.refl _)
        have g2 : Eqv n c ([s] ++ (s :: t')) ([s] ++ u) := (Eqv.refl [s]).app (b4.trans he)
        exact g1.symm.trans g2
      have := a2 (s :: u) (lets_cons hs hu) g
      simp at this
      omega
/-- What is a part of a reduced word is a part of each word of its element. -/
theorem part_any (h : Car n c) {w : List Nat} (hw : Lets n w) (hr : Red n c w) : ∀ (d : Nat) {x : List Nat}, x.Sublist w → Red n c x → w.length ≤ x.length + d → ∀ y, Lets n y → Eqv n c y w → ∃ y', y'.Sublist y ∧ Eqv n c y' x
  | 0, x, hs, _, hd, y, _, he => by
    have : x = w := hs.eq_of_length_le (by omega)
    subst this
    exact ⟨y, List.Sublist.refl _, he⟩
  | d + 1, x, hs, hx, hd, y, hy, he => by
    by_cases hl : x.length < w.length
    · obtain ⟨z, z1, z2, z3, z4⟩ := up_step h w (p := []) (x' := x) hw hs hr hx hl
      obtain ⟨y1, b1, b2⟩ := part_any h hw hr d (x := z) z1 z2 (by simp at z3; omega) y hy he
      obtain ⟨y2, d1, _, d3⟩ := z4 y1 (lets_sub hy b1) b2
      exact ⟨y2, d1.trans b1, d3⟩
    · have : x = w := hs.eq_of_length_le (by omega)
      subst this
      exact ⟨y, List.Sublist.refl _, he⟩
/-- A proper part of a reduced word is a part of one of its reduced parts that lack one letter. -/
theorem part_cover (h : Car n c) {w : List Nat} (hw : Lets n w) (hr : Red n c w) : ∀ (d : Nat) {x : List Nat}, x.Sublist w → Red n c x → x.length < w.length → w.length ≤ x.length + d → ∃ z, z.Sublist w ∧ z.length + 1 = w.length ∧ Red n c z ∧ ∃ x', x'.Sublist z ∧ Eqv n c x' x
  | 0, x, _, _, hl, hd => by omega
  | d + 1, x, hs, hx, hl, hd => by
    by_cases h1 : x.length + 1 = w.length
    · exact ⟨x, hs, h1, hx, x, List.Sublist.refl _, Eqv.refl _⟩
    · obtain ⟨z, z1, z2, z3, z4⟩ := up_step h w (p := []) (x' := x) hw hs hr hx hl
      simp at z3
      obtain ⟨y, y1, y2, y3, z', t1, t2⟩ := part_cover h hw hr d (x := z) z1 z2 (by omega) (by omega)
      obtain ⟨x'', u1, _, u3⟩ := z4 z' (lets_sub (lets_sub hw y1) t1) t2
      exact ⟨y, y1, y2, y3, x'', u1.trans t1, u3⟩
/-- Words that take the ones to the same are words of one element. -/
theorem id_eqv3 (h : Car n c) : ∀ (N : Nat) (w : List Nat), w.length ≤ N → Lets n w → (∀ k, k < n → aW c w one k = 1) → Eqv n c w []
  | _, [], _, _, _ => Eqv.refl _
  | 0, i :: w, hN, _, _ => by simp at hN
  | N + 1, i :: w, hN, hw, h1 => by
    have hi : i < n := hw i (by simp)
    have hw' : Lets n w := fun j hj => hw j (by simp [hj])
    have e : aW c w one i - aW c w one i * c i i = 1 := h1 i hi
    rw [h.diag i hi] at e
    have hn : NegA n c w.reverse i := by
      rcases coh h (lets_rev hw') hi with hp | hn
      · rw [num_height h hw' hi] at e
        have := (dot_one_pos hp.2).1
        omega
      · exact hn
    obtain ⟨x2, a3, a2, b4⟩ := front_out h hw' hi hn
    exact b4.trans (id_eqv3 h N x2 (by simp at hN; omega) (lets_sub hw' a3) (fun k hk => by rw [← b4.m]; exact h1 k hk))
theorem same_eqv (h : Car n c) {w w' : List Nat} (hw : Lets n w) (hw' : Lets n w') (he : ∀ k, k < n → aW c w one k = aW c w' one k) : Eqv n c w w' := by
  have h1 : ∀ k, k < n → aW c (w'.reverse ++ w) one k = 1 := fun k hk => by
    rw [aW_append, aW_congr h he (lets_rev hw') k hk, aW_rev h one hw']
    rfl
  have h2 := id_eqv3 h _ _ (Nat.le_refl _) (lets_app (lets_rev hw') hw) h1
  have h3 : Eqv n c (w' ++ (w'.reverse ++ w)) (w' ++ []) := (Eqv.refl w').app h2
  have h4 : Eqv n c ((w' ++ w'.reverse) ++ w) ([] ++ w) := (eqv_cut h hw').app (Eqv.refl w)
  rw [List.append_assoc] at h4
  rw [List.append_nil] at h3
  exact h4.symm.trans h3
end Cox
end Go.Proofs.Ytipjomdldjbenaa
