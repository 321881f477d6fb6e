/- Parity of lengths; the normal form is a word of its element; the longest elements. Plain. No condition. -/
import Derived.Test.YteglcjembimegaaFinDom
namespace Go.Proofs.Yteglcjembimegaa
open Go.RowKit
set_option maxRecDepth 20000

namespace Cox
variable {n : Nat} {c : Nat → Nat → Int}
theorem aW_congr (h : Car n c) {m m' : Nat → Int} (hm : ∀ k, k < n → m k = m' k) : ∀ {w : List Nat}, Lets n w → ∀ k, k < n → aW c w m k = aW c w m' k
  | [], _, k, hk => hm k hk
  | i :: w, hw, k, hk => by
    have ih := aW_congr h hm (w := w) (fun j hj => hw j (by simp [hj]))
    have hi : i < n := hw i (by simp)
    show sW c i (aW c w m) k = sW c i (aW c w m') k
    unfold sW
    rw [ih k hk, ih i hi]
/-- A word that leaves the ones is of even length. -/
theorem even_id (h : Car n c) : ∀ (N : Nat) (w : List Nat), w.length ≤ N → Lets n w → (∀ k, k < n → aW c w one k = 1) → w.length % 2 = 0
  | 0, w, hN, _, _ => by
    have : w.length = 0 := by omega
    rw [this]
  | N + 1, [], _, _, _ => rfl
  | N + 1, i :: w, hN, hw, h1 => by
    have hi : i < n := hw i (by simp)
    have hw' : Lets n w := fun j hj => hw j (by simp [hj])
    have e : aW c w one i - aW c w one i * c i i = 1 := h1 i hi
    rw [h.diag i hi] at e
    obtain ⟨w', a1, a2, a3⟩ := (image_step h hw' hi).2 (by omega)
    have h2 : ∀ k, k < n → aW c w' one k = 1 := fun k hk => by rw [← a3]; exact h1 k hk
    have := even_id h N w' (by simp at hN; omega) a1 h2
    simp
    omega
theorem lets_app {a b : List Nat} (ha : Lets n a) (hb : Lets n b) : Lets n (a ++ b) := fun j hj => by
  rcases List.mem_append.1 hj with h | h
  · exact ha j h
  · exact hb j h
/-- Words of one element have lengths of one parity. -/
theorem parity (h : Car n c) {w w' : List Nat} (hw : Lets n w) (hw' : Lets n w') (he : ∀ k, k < n → aW c w one k = aW c w' one k) : (w.length + w'.length) % 2 = 0 := by
  have h1 : ∀ k, k < n → aW c (w.reverse ++ w') one k = 1 := fun k hk => by
    rw [aW_append, aW_congr h (fun k hk => (he k hk).symm) (lets_rev hw) k hk, aW_rev h one hw]
    rfl
  have := even_id h _ _ (Nat.le_refl _) (lets_app (lets_rev hw) hw') h1
  simpa using this
/-- Where no number is negative, all are 1. -/
theorem pos_one (h : Car n c) : ∀ (N : Nat) (w : List Nat), w.length ≤ N → Lets n w → (∀ k, k < n → 0 ≤ aW c w one k) → ∀ k, k < n → aW c w one k = 1
  | _, [], _, _, _ => fun k _ => rfl
  | 0, i :: w, hN, _, _ => by simp at hN
  | N + 1, i :: w, hN, hw, h1 => by
    have hi : i < n := hw i (by simp)
    have hw' : Lets n w := fun j hj => hw j (by simp [hj])
    have e : 0 ≤ aW c w one i - aW c w one i * c i i := h1 i hi
    rw [h.diag i hi] at e
    have h0 := (image_step h hw' hi).1
    obtain ⟨w', a1, a2, a3⟩ := (image_step h hw' hi).2 (by omega)
    have e2 : aW c (i :: w) one = aW c w' one := a3
    intro k hk
    rw [e2]
    exact pos_one h N w' (by simp at hN; omega) a1 (fun k hk => by rw [← e2]; exact h1 k hk) k hk
end Cox

theorem Im.parity {c : List (List Int)} (hc : CartanP c) {v : List Int} {m m' : Nat} (h : Im c v m) (h' : Im c v m') : (m + m') % 2 = 0 := by
  obtain ⟨_, w, hw, rfl, hn⟩ := h
  obtain ⟨_, w', hw', rfl, hn'⟩ := h'
  exact Cox.parity hc.car hw hw' (fun k hk => by rw [← hn k hk, ← hn' k hk])
theorem num_ext {v v' : List Int} {n : Nat} (h : v.length = n) (h' : v'.length = n) (he : ∀ k, k < n → num v k = num v' k) : v = v' := by
  refine List.ext_getElem (by omega) fun k h1 h2 => ?_
  have := he k (by omega)
  simpa [num, h1, h2] using this
theorem Im.ones {c : List (List Int)} (hc : CartanP c) {v : List Int} {m : Nat} (h : Im c v m) (e : firstN v = none) : v = List.replicate c.length 1 := by
  obtain ⟨hl, w, hw, _, hn⟩ := h
  refine num_ext hl (by simp) fun k hk => ?_
  rw [hn k hk]
  have := Cox.pos_one hc.car _ w (Nat.le_refl _) hw (fun k hk => by
    rw [← hn k hk]
    have hk' : k < v.length := by omega
    have : num v k = v[k] := by simp [num, hk']
    rw [this]
    exact firstN_none.1 e _ (List.getElem_mem _)) k hk
  rw [this]
  simp [num, hk]
theorem Im.turn_two {c : List (List Int)} (hc : CartanP c) {v : List Int} {m : Nat} (h : Im c v m) (hm : m + 1 ≤ 30) {i : Nat} (hi : i < c.length) : refl c i (refl c i v) = v := by
  have h2 := h.step hc (by omega) hi
  obtain ⟨hl, w, hw, hwl, hn⟩ := h
  have hlr : (refl c i v).length = c.length := by rw [refl_length, hl]
  have hw2 : Cox.Lets c.length (i :: w) := fun j hj => by
    rcases List.mem_cons.1 hj with rfl | hj
    · exact hi
    · exact hw j hj
  have hn2 : ∀ k, k < c.length → num (refl c i v) k = Cox.aW (ent c) (i :: w) Cox.one k := fun k hk => refl_exact hc hl hw (by omega) hn hi hk
  refine num_ext (n := c.length) (by rw [refl_length, refl_length, hl]) hl fun k hk => ?_
  rw [refl_exact hc hlr hw2 (by simp; omega) hn2 hi hk, hn k hk]
  show Cox.sW (ent c) i (Cox.sW (ent c) i (Cox.aW (ent c) w Cox.one)) k = _
  rw [Cox.sW_two hc.car hi]
/-- The word of a vector takes the ones to it. -/
theorem nf_image {c : List (List Int)} (hc : CartanP c) : ∀ (m : Nat) {v : List Int}, Im c v m → m ≤ 29 → image c (nf c 30 v) = v
  | m, v, h, hm => by
    cases e : firstN v with
    | none => rw [nf_end e, h.ones hc e]; rfl
    | some i =>
      obtain ⟨m', rfl, h1, h2⟩ := nf_turn hc h (by omega) e
      have ih := nf_image hc m' h1 (by omega)
      have hi : i < c.length := by have := firstN_lt e; rw [h.len] at this; exact this
      rw [h2]
      show refl c (i : Int).toNat (image c (nf c 30 (refl c i v))) = v
      rw [ih]
      exact h.turn_two hc (by omega) hi
theorem nf_im {c : List (List Int)} (hc : CartanP c) {m : Nat} {v : List Int} (h : Im c v m) (hm : m ≤ 29) : Im c v (nf c 30 v).length := by
  have hD := down_im hc
  have h1 := nf_lets hD m ⟨h, by omega⟩
  have h2 := nf_len hD m ⟨h, by omega⟩
  have := image_im hc h1 (by omega)
  rwa [nf_image hc m h hm] at this
/-- A letter behind a word changes the length of the normal form by an odd number. -/
theorem norm_snoc {c : List (List Int)} (hc : CartanP c) {x : List Int} {i : Nat} (hx : Lets c.length x) (hi : i < c.length) (hl : x.length ≤ 28) : (normL c (x ++ [(i : Int)])).length ≤ x.length + 1 ∧ (normL c (x ++ [(i : Int)])).length ≠ x.length := by
  have hle : Lets c.length (x ++ [(i : Int)]) := fun y hy => by
    rcases List.mem_append.1 hy with h | h
    · exact hx y h
    · simp at h; omega
  have h1 := image_im hc hle (by simp; omega)
  have h2 := nf_im hc h1 (by simp; omega)
  have h3 := h1.parity hc h2
  have h4 := normL_le hc hle (by simp; omega)
  simp at h3 h4
  unfold normL at *
  omega
theorem normL_lets {c : List (List Int)} (hc : CartanP c) {x : List Int} (hx : Lets c.length x) (hl : x.length ≤ 30) : Lets c.length (normL c x) := nf_lets (down_im hc) x.length ⟨image_im hc hx hl, hl⟩

def longL (c : List (List Int)) : List Int := nf c 30 (List.replicate c.length (-1))
def chkLong (c : List (List Int)) : Bool := decide (image c (longL c) = List.replicate c.length (-1)) && (decide ((longL c).length ≤ 24) && (longL c).all fun x => decide (0 ≤ x ∧ x < c.length))
theorem long_all : (Fin.L1 ++ Fin.L2 ++ Fin.L3 ++ Fin.L4).all chkLong = true := by decide +kernel
theorem FinP.long {c : List (List Int)} (h : FinP c) : Im c (List.replicate c.length (-1)) (longL c).length ∧ (longL c).length ≤ 24 := by
  have := h.all long_all
  unfold chkLong at this
  simp only [Bool.and_eq_true, decide_eq_true_eq, List.all_eq_true] at this
  obtain ⟨h1, h2, h3⟩ := this
  have := image_im h.cart (w := longL c) (fun x hx => h3 x hx) (by omega)
  rw [h1] at this
  exact ⟨this, h2⟩
end Go.Proofs.Yteglcjembimegaa
