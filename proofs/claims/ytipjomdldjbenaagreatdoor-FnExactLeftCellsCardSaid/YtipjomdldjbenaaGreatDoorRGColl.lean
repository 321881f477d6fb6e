/- Terms in order with a polynomial each: such a list is known by its coefficients; adding a term; joining equal words in a sorted list. Plain lists. Products of polynomials. Condition: sizes up to 2^23. -/
import Derived.Test.YtipjomdldjbenaaGreatDoorRGRow
import Derived.Test.YtipjomdldjbenaaGreatDoorRGBase
import Derived.Deep.RegionHeld3
import Derived.Test.YtipjomdldjbenaaGreatDoorRGPoly
import Derived.Test.YtipjomdldjbenaaGreatDoorRLawTerm
namespace Go.Proofs.YtipjomdldjbenaaGreatDoor
open Go.RowKit
theorem trimTo_num (p : List Int) : ∀ n, trimTo p n = 0 ∨ num p (trimTo p n - 1) ≠ 0
 | 0 => .inl rfl
 | n + 1 => by
  unfold trimTo
  by_cases h : num p n = 0
  ·rw [if_pos h]; exact trimTo_num p n
  ·rw [if_neg h]; exact .inr (by rwa [Nat.add_sub_cancel])
theorem trimTo_zeros (p : List Int) : ∀ n k, trimTo p n ≤ k → k < n → num p k = 0
 | 0, k, _, h => absurd h (Nat.not_lt_zero _)
 | n + 1, k, h1, h2 => by
  unfold trimTo at h1
  by_cases h : num p n = 0
  ·rw [if_pos h] at h1
   by_cases hk : k = n
   ·rw [hk]; exact h
   ·exact trimTo_zeros p n k h1 (by omega)
  ·rw [if_neg h] at h1; omega
theorem trim_len (p : List Int) : (trim p).length = trimTo p p.length := by
 have := trimTo_le p p.length
 unfold trim; simp; omega
theorem num_trim (p : List Int) (k : Nat) : num (trim p) k = num p k := by
 by_cases h : k < trimTo p p.length
 ·unfold trim num
  rw [List.getElem?_take, if_pos h]
 ·rw [num_out (by rw [trim_len]; omega)]
  by_cases h2 : k < p.length
  ·exact (trimTo_zeros p p.length k (by omega) h2).symm
  ·exact (num_out (by omega)).symm
def Trd (p : List Int) : Prop := p = [] ∨ num p (p.length - 1) ≠ 0
theorem trd_trim (p : List Int) : Trd (trim p) := by
 rcases trimTo_num p p.length with h | h
 ·exact .inl (List.eq_nil_of_length_eq_zero (by rw [trim_len, h]))
 ·exact .inr (by rw [num_trim, trim_len]; exact h)
theorem trd_ext {p q : List Int} (hp : Trd p) (hq : Trd q) (h : ∀ k, num p k = num q k) : p = q := by
 have key : ∀ {p q : List Int}, Trd q → (∀ k, num p k = num q k) → q.length ≤ p.length := by
  intro p q hq h
  rcases hq with rfl | hq
  ·exact Nat.zero_le _
  ·rcases Nat.lt_or_ge (q.length - 1) p.length with h1 | h1
   ·omega
   ·rw [← h, num_out h1] at hq; exact absurd rfl hq
 have hl : p.length = q.length := Nat.le_antisymm (key hp (fun k => (h k).symm)) (key hq h)
 apply List.ext_getElem?
 intro k
 by_cases hk : k < p.length
 ·have := h k
  unfold num at this
  rw [List.getElem?_eq_getElem hk, List.getElem?_eq_getElem (by omega)] at this ⊢
  exact congrArg some this
 ·rw [List.getElem?_eq_none (by omega), List.getElem?_eq_none (by omega)]
theorem num_addP (a b : List Int) (k : Nat) : num (addP a b) k = wrap64 (num a k + num b k) := by
 unfold addP
 rw [num_trim]
 by_cases h : k < max a.length b.length
 ·unfold sumTo
  rw [num]
  rw [List.getElem?_map, List.getElem?_range h]
  rfl
 ·rw [num_out (by simp [sumTo]; omega), num_out (by omega), num_out (by omega)]
  unfold wrap64; omega
theorem trd_addP (a b : List Int) : Trd (addP a b) := trd_trim _
theorem InI.num {p : List Int} (h : InI p) (k : Nat) : -9223372036854775808 ≤ num p k ∧ num p k ≤ 9223372036854775807 := by
 unfold Proofs.YtipjomdldjbenaaGreatDoor.num
 cases e : p[k]? with
 | none => simp
 | some x => exact h x (List.mem_of_getElem? e)
structure Can (h : List Trm) : Prop where
 srt : h.Pairwise fun a b => cmpW a.1 b.1 < 0
 ne : ∀ t ∈ h, t.2 ≠ []
 tr : ∀ t ∈ h, Trd t.2
 inn : ∀ t ∈ h, InI t.2
def cf (h : List Trm) (u : List Int) (k : Nat) : Int := (h.map fun t => if t.1 = u then num t.2 k else 0).sum
theorem cf_cons (t : Trm) (h : List Trm) (u : List Int) (k : Nat) : cf (t :: h) u k = (if t.1 = u then num t.2 k else 0) + cf h u k := by simp [cf]
theorem cf_out {h : List Trm} {u : List Int} (hu : ∀ t ∈ h, t.1 ≠ u) (k : Nat) : cf h u k = 0 := by
 induction h with
 | nil => rfl
 | cons t h ih => rw [cf_cons, if_neg (hu t (List.mem_cons_self ..)), ih (fun s hs => hu s (List.mem_cons_of_mem _ hs))]; rfl
theorem cmpW_self (u : List Int) : cmpW u u = 0 := cmpW_eq.2 rfl
theorem cmpW_lt_ne {u v : List Int} (h : cmpW u v < 0) : v ≠ u := by
 rintro rfl
 rw [cmpW_self] at h
 omega
theorem Can.tail {t : Trm} {h : List Trm} (c : Can (t :: h)) : Can h ∧ ∀ s ∈ h, cmpW t.1 s.1 < 0 :=
 ⟨⟨(List.pairwise_cons.1 c.srt).2, fun s hs => c.ne s (List.mem_cons_of_mem _ hs), fun s hs => c.tr s (List.mem_cons_of_mem _ hs), fun s hs => c.inn s (List.mem_cons_of_mem _ hs)⟩, (List.pairwise_cons.1 c.srt).1⟩
theorem Can.cons {t : Trm} {h : List Trm} (c : Can h) (h1 : ∀ s ∈ h, cmpW t.1 s.1 < 0) (h2 : t.2 ≠ []) (h3 : Trd t.2) (h4 : InI t.2) : Can (t :: h) :=
 ⟨List.pairwise_cons.2 ⟨h1, c.srt⟩, fun s hs => by rcases List.mem_cons.1 hs with rfl | hs; exact h2; exact c.ne s hs, fun s hs => by rcases List.mem_cons.1 hs with rfl | hs; exact h3; exact c.tr s hs,
  fun s hs => by rcases List.mem_cons.1 hs with rfl | hs; exact h4; exact c.inn s hs⟩
theorem Can.nil : Can [] := ⟨List.Pairwise.nil, fun t h => by simp at h, fun t h => by simp at h, fun t h => by simp at h⟩
theorem Can.head {t : Trm} {h : List Trm} (c : Can (t :: h)) (k : Nat) : cf (t :: h) t.1 k = num t.2 k := by
 rw [cf_cons, if_pos rfl, cf_out (fun s hs => cmpW_lt_ne (c.tail.2 s hs))]; omega
theorem Can.one {w p : List Int} {h : List Trm} (c : Can h) (h1 : ∀ s ∈ h, cmpW w s.1 < 0) (h3 : Trd p) (h4 : InI p) : Can ((if p = [] then [] else [(w, p)]) ++ h) := by
 by_cases hp : p = []
 ·rw [if_pos hp]; exact c
 ·rw [if_neg hp]; exact c.cons h1 hp h3 h4
set_option maxRecDepth 20000
def mulRow (a b : List Int) (i : Nat) (O : List Int) : Nat → List Int
 | 0 => O
 | k + 1 => (mulRow a b i O k).set (i + k) (wrap64 (num (mulRow a b i O k) (i + k) + wrap64 (num a i * num b k)))
def mulTo (a b : List Int) : Nat → List Int
 | 0 => List.replicate (a.length + b.length - 1) 0
 | i + 1 => mulRow a b i (mulTo a b i) b.length
def mulP (a b : List Int) : List Int := if a.length = 0 ∨ b.length = 0 ∨ 62 < a.length + b.length then [] else trim (mulTo a b a.length)
theorem mulRow_len (a b : List Int) (i : Nat) (O : List Int) : ∀ k, (mulRow a b i O k).length = O.length
 | 0 => rfl
 | k + 1 => by unfold mulRow; rw [List.length_set, mulRow_len a b i O k]
theorem mulTo_len (a b : List Int) : ∀ i, (mulTo a b i).length = a.length + b.length - 1
 | 0 => by simp [mulTo]
 | i + 1 => by unfold mulTo; rw [mulRow_len, mulTo_len a b i]
theorem wrap_bounds (x : Int) : -9223372036854775808 ≤ wrap64 x ∧ wrap64 x ≤ 9223372036854775807 := by unfold wrap64; omega
theorem mulRow_in (a b : List Int) (i : Nat) (O : List Int) (h : InI O) : ∀ k, InI (mulRow a b i O k)
 | 0 => h
 | k + 1 => fun x hx => by
  unfold mulRow at hx
  rcases List.mem_or_eq_of_mem_set hx with hx | rfl
  ·exact mulRow_in a b i O h k x hx
  ·exact wrap_bounds _
theorem mulTo_in (a b : List Int) : ∀ i, InI (mulTo a b i)
 | 0 => fun x hx => by
  unfold mulTo at hx
  have := List.eq_of_mem_replicate hx
  omega
 | i + 1 => by unfold mulTo; exact mulRow_in a b i _ (mulTo_in a b i) _
theorem mulP_ok (a b : List Int) : Trd (mulP a b) ∧ InI (mulP a b) ∧ (mulP a b).length ≤ 62 := by
 unfold mulP
 split
 ·exact ⟨.inl rfl, fun x hx => by simp at hx, by simp⟩
 ·refine ⟨trd_trim _, fun x hx => mulTo_in a b _ x (trim_mem hx), ?_⟩
  have := trim_le (mulTo a b a.length)
  rw [mulTo_len] at this
  omega
end Go.Proofs.YtipjomdldjbenaaGreatDoor
