/- The normal form of an element, told by its image of the ones. Plain. Condition: words of at most 30 letters. -/
import Derived.Test.YtipjomdldjbenaaGreatDoorJGCart
import Derived.Test.YtipjomdldjbenaaGreatDoorJCox
namespace Go.Proofs.YtipjomdldjbenaaGreatDoor
open Go.RowKit
set_option maxRecDepth 20000

/-- The first place with a number below zero. -/
def firstN : List Int → Option Nat
  | [] => none
  | x :: xs => if x < 0 then some 0 else (firstN xs).map (· + 1)
theorem firstN_none : ∀ {v : List Int}, firstN v = none ↔ ∀ x ∈ v, 0 ≤ x
  | [] => by simp [firstN]
  | x :: xs => by
    unfold firstN
    by_cases h : x < 0
    · simp [h]; intro h2; omega
    · simp [h, firstN_none (v := xs)]; omega
theorem firstN_some : ∀ {v : List Int} {i : Nat}, firstN v = some i → ∃ x, v[i]? = some x ∧ x < 0 ∧ ∀ j, j < i → ∀ y, v[j]? = some y → 0 ≤ y
  | [], _, h => by simp [firstN] at h
  | x :: xs, i, h => by
    unfold firstN at h
    by_cases hx : x < 0
    · simp [hx] at h; subst h; exact ⟨x, rfl, hx, fun j hj => by omega⟩
    · simp [hx] at h
      obtain ⟨k, hk, rfl⟩ := h
      obtain ⟨y, h1, h2, h3⟩ := firstN_some hk
      refine ⟨y, by simpa using h1, h2, fun j hj z hz => ?_⟩
      cases j with
      | zero => simp at hz; omega
      | succ j => exact h3 j (by omega) z (by simpa using hz)
theorem firstN_lt {v : List Int} {i : Nat} (h : firstN v = some i) : i < v.length := by
  obtain ⟨x, h1, _⟩ := firstN_some h
  exact (List.getElem?_eq_some_iff.1 h1).1

/-- The letters taken one after another. -/
def nf (c : List (List Int)) : Nat → List Int → List Int
  | 0, _ => []
  | f + 1, v => match firstN v with
    | none => []
    | some i => (i : Int) :: nf c f (refl c i v)

def toN (w : List Int) : List Nat := w.map Int.toNat
def image (c : List (List Int)) (w : List Int) : List Int := act c w (List.replicate c.length 1)
def normL (c : List (List Int)) (w : List Int) : List Int := nf c 30 (image c w)

theorem CartanP.car {c : List (List Int)} (h : CartanP c) : Cox.Car c.length (ent c) := by
  refine ⟨fun i hi => ?_, fun i j hi hj hn => ?_, fun i j hi hj h0 => ?_⟩
  · have := h.ok i i hi hi
    simpa [okE] using this
  · have := h.ok i j hi hj
    simp [okE, hn] at this
    exact this.1
  · by_cases hn : i = j
    · subst hn; exact h0
    · have := h.ok i j hi hj
      simp [okE, hn] at this
      have := this.2
      rw [h0] at this
      simpa using this

/-- A list is the image of a word of n letters, no number of which is too great. -/
structure Im (c : List (List Int)) (v : List Int) (m : Nat) : Prop where
  len : v.length = c.length
  word : ∃ w : List Nat, Cox.Lets c.length w ∧ w.length = m ∧ ∀ k, k < c.length → num v k = Cox.aW (ent c) w Cox.one k

theorem four_pos (m : Nat) : (1 : Int) ≤ 4 ^ m := by
  have := Nat.one_le_two_pow (n := 0)
  induction m with
  | zero => simp
  | succ m ih => rw [Int.pow_succ]; omega

theorem aW_bound {n : Nat} {c : Nat → Nat → Int} (h : Cox.Car n c) : ∀ {w : List Nat}, Cox.Lets n w → ∀ k, k < n → -(4 ^ w.length) ≤ Cox.aW c w Cox.one k ∧ Cox.aW c w Cox.one k ≤ 4 ^ w.length
  | [], _, k, _ => by simp [Cox.aW, Cox.one]
  | i :: w, hw, k, hk => by
    have hi : i < n := hw i (by simp)
    have hw' : Cox.Lets n w := fun j hj => hw j (by simp [hj])
    have b1 := aW_bound h hw' k hk
    have b2 := aW_bound h hw' i hi
    simp only [Cox.aW, Cox.sW, List.length_cons, Int.pow_succ]
    generalize Cox.aW c w Cox.one i = x at *
    generalize Cox.aW c w Cox.one k = y at *
    have hpos := four_pos w.length
    generalize (4 : Int) ^ w.length = B at *
    by_cases hik : k = i
    · subst hik
      rw [h.diag k hk]
      have : x = y ∨ True := .inr trivial
      omega
    · have ho := h.off k i hk hi hik
      have hc : c k i = 0 ∨ c k i = -1 ∨ c k i = -2 ∨ c k i = -3 := by omega
      rcases hc with e | e | e | e <;> rw [e] <;> omega


theorem wrap_id {x : Int} (h1 : -9223372036854775808 ≤ x) (h2 : x ≤ 9223372036854775807) : wrap64 x = x := by
  unfold wrap64
  omega

theorem refl_get {c : List (List Int)} {i : Nat} {v : List Int} {k : Nat} (hk : k < v.length) : num (refl c i v) k = wrap64 (num v k - wrap64 (num v i * ent c k i)) := by
  have key : ∀ (x : Int) (l : List Int) (o k : Nat), k < l.length → num (reflL c i x l o) k = wrap64 (num l k - wrap64 (x * ent c (o + k) i)) := by
    intro x l
    induction l with
    | nil => intro o k hk; simp at hk
    | cons y ys ih =>
      intro o k hk
      cases k with
      | zero => simp [reflL, num]
      | succ k =>
        have := ih (o + 1) k (by simpa using hk)
        simp only [num, reflL, List.getElem?_cons_succ] at this ⊢
        rw [this, show o + 1 + k = o + (k + 1) by omega]
  have := key (num v i) v 0 k hk
  rw [Nat.zero_add] at this
  exact this

theorem pow_small {m : Nat} (h : m ≤ 30) : (4 : Int) ^ m ≤ 1152921504606846976 := by
  have h1 : (4 : Nat) ^ m ≤ 4 ^ 30 := Nat.pow_le_pow_right (by omega) h
  have h2 : ((4 ^ m : Nat) : Int) ≤ ((4 ^ 30 : Nat) : Int) := by exact_mod_cast h1
  have h3 : ((4 ^ m : Nat) : Int) = (4 : Int) ^ m := by simp
  rw [h3] at h2
  simpa using h2

theorem refl_exact {c : List (List Int)} (hc : CartanP c) {v : List Int} (hv : v.length = c.length) {w : List Nat} (hw : Cox.Lets c.length w) (hm : w.length ≤ 30) (h : ∀ k, k < c.length → num v k = Cox.aW (ent c) w Cox.one k) {i : Nat} (hi : i < c.length) {k : Nat} (hk : k < c.length) :
    num (refl c i v) k = Cox.sW (ent c) i (Cox.aW (ent c) w Cox.one) k := by
  rw [refl_get (by omega), h k hk, h i hi]
  have b1 := aW_bound hc.car hw k hk
  have b2 := aW_bound hc.car hw i hi
  have b3 := pow_small hm
  unfold Cox.sW
  generalize Cox.aW (ent c) w Cox.one i = x at *
  generalize Cox.aW (ent c) w Cox.one k = y at *
  generalize (4 : Int) ^ w.length = B at *
  have he : ent c k i = 2 ∨ ent c k i = 0 ∨ ent c k i = -1 ∨ ent c k i = -2 ∨ ent c k i = -3 := by
    by_cases hik : k = i
    · subst hik; exact .inl (hc.car.diag k hk)
    · have ho := hc.car.off k i hk hi hik; omega
  rcases he with e | e | e | e | e <;> rw [e] <;> rw [wrap_id (x := x * _) (by omega) (by omega), wrap_id (by omega) (by omega)]

theorem Im.step {c : List (List Int)} (hc : CartanP c) {v : List Int} {m : Nat} (h : Im c v m) (hm : m ≤ 30) {i : Nat} (hi : i < c.length) : Im c (refl c i v) (m + 1) := by
  obtain ⟨hl, w, hw, hwl, hn⟩ := h
  refine ⟨by rw [refl_length, hl], i :: w, fun j hj => ?_, by simp [hwl], fun k hk => refl_exact hc hl hw (by omega) hn hi hk⟩
  rcases List.mem_cons.1 hj with rfl | hj
  · exact hi
  · exact hw j hj

theorem num_mem {v : List Int} {x : Int} (h : x ∈ v) : ∃ k, k < v.length ∧ num v k = x := by
  obtain ⟨k, hk, rfl⟩ := List.getElem_of_mem h
  exact ⟨k, hk, by simp [num, hk]⟩

theorem Im.ne {c : List (List Int)} (hc : CartanP c) {v : List Int} {m : Nat} (h : Im c v m) {x : Int} (hx : x ∈ v) : x ≠ 0 := by
  obtain ⟨hl, w, hw, hwl, hn⟩ := h
  obtain ⟨k, hk, rfl⟩ := num_mem hx
  rw [hn k (by omega)]
  exact (Cox.image_step hc.car hw (by omega)).1

theorem Im.back {c : List (List Int)} (hc : CartanP c) {v : List Int} {m : Nat} (h : Im c v m) (hm : m ≤ 30) {i : Nat} {x : Int} (hx : v[i]? = some x) (hx0 : x < 0) : ∃ m', m = m' + 1 ∧ Im c (refl c i v) m' := by
  obtain ⟨hl, w, hw, hwl, hn⟩ := h
  have hi : i < c.length := by have := (List.getElem?_eq_some_iff.1 hx).1; omega
  obtain ⟨w', a1, a2, a3⟩ := (Cox.image_step hc.car hw hi).2 (by rw [← hn i hi, num_at hx]; exact hx0)
  exact ⟨w'.length, by omega, by rw [refl_length, hl], w', a1, rfl, fun k hk => by rw [refl_exact hc hl hw (by omega) hn hi hk, a3]⟩

theorem Im.zero {c : List (List Int)} {v : List Int} (h : Im c v 0) : firstN v = none := by
  obtain ⟨hl, w, hw, hwl, hn⟩ := h
  have : w = [] := List.eq_nil_of_length_eq_zero hwl
  subst this
  refine firstN_none.2 fun x hx => ?_
  obtain ⟨k, hk, rfl⟩ := num_mem hx
  rw [hn k (by omega)]
  simp [Cox.aW, Cox.one]

theorem nf_fuel {c : List (List Int)} (hc : CartanP c) : ∀ (m : Nat) {v : List Int} {f : Nat}, Im c v m → m ≤ 30 → m ≤ f → nf c f v = nf c m v
  | 0, v, f, h, _, _ => by
    cases f with
    | zero => rfl
    | succ f => simp [nf, h.zero]
  | m + 1, v, f, h, hm, hf => by
    obtain ⟨f, rfl⟩ : ∃ k, f = k + 1 := ⟨f - 1, by omega⟩
    simp only [nf]
    cases e : firstN v with
    | none => rfl
    | some i =>
      obtain ⟨x, h1, h2, _⟩ := firstN_some e
      obtain ⟨m', hm', h3⟩ := h.back hc hm h1 h2
      have : m' = m := by omega
      subst this
      simp only
      rw [nf_fuel hc m' h3 (by omega) (by omega)]
theorem nf_le {c : List (List Int)} (hc : CartanP c) : ∀ (m : Nat) {v : List Int}, (nf c m v).length ≤ m
  | 0, v => by simp [nf]
  | m + 1, v => by
    simp only [nf]
    cases e : firstN v with
    | none => simp
    | some i => simp; exact nf_le hc m

/-- One turn of the loop. -/
theorem nf_turn {c : List (List Int)} (hc : CartanP c) {m : Nat} {v : List Int} {i : Nat} (h : Im c v m) (hm : m ≤ 30) (e : firstN v = some i) : ∃ m', m = m' + 1 ∧ Im c (refl c i v) m' ∧ nf c 30 v = (i : Int) :: nf c 30 (refl c i v) := by
  obtain ⟨x, h1, h2, _⟩ := firstN_some e
  obtain ⟨m', rfl, h3⟩ := h.back hc hm h1 h2
  refine ⟨m', rfl, h3, ?_⟩
  rw [nf_fuel hc (m' + 1) h hm hm, nf_fuel hc m' h3 (by omega) (by omega)]
  simp [nf, e]
theorem nf_end {c : List (List Int)} {v : List Int} (e : firstN v = none) : nf c 30 v = [] := by simp [nf, e]

theorem image_im {c : List (List Int)} (hc : CartanP c) : ∀ {w : List Int}, Lets c.length w → w.length ≤ 30 → Im c (image c w) w.length
  | [], _, _ => ⟨by simp [image, act], [], fun i hi => by simp at hi, rfl, fun k hk => by simp [image, act, num, Cox.aW, Cox.one, hk]⟩
  | i :: w, hw, hl => by
    have h1 := image_im hc (w := w) (fun x hx => hw x (by simp [hx])) (by simp at hl; omega)
    have h2 := hw i (by simp)
    exact h1.step hc (by simp at hl; omega) (by omega)

theorem normL_le {c : List (List Int)} (hc : CartanP c) {w : List Int} (hw : Lets c.length w) (hl : w.length ≤ 30) : (normL c w).length ≤ w.length := by
  unfold normL
  rw [nf_fuel hc _ (image_im hc hw hl) hl hl]
  exact nf_le hc _
end Go.Proofs.YtipjomdldjbenaaGreatDoor
