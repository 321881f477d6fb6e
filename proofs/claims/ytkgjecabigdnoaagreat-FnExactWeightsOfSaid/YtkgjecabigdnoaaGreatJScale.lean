/- Numbers that make a part symmetric, by the reference: one try. Condition: sizes up to 2^24. -/
import Derived.Test.YtkgjecabigdnoaaGreatJGPart
import Derived.Test.YtkgjecabigdnoaaGreatJSymm
import Derived.Test.YtkgjecabigdnoaaGreatJGrow
import Derived.RegionTactic
import Derived.BigRegion
import Derived.Shelf.RegionOpenPlain
namespace Go.Proofs.YtkgjecabigdnoaaGreat
open Go.RowKit
set_option maxRecDepth 20000

theorem range_at {n i : Nat} (hi : i < n) : (List.range n)[i]? = some i := by simp [hi]
theorem range_take {n i : Nat} (hi : i ≤ n) : (List.range n).take i = List.range i := by rw [List.take_range, Nat.min_eq_left hi]
theorem quoP_some {a b d x : Int} (h : quoP a b d = some x) : d ≠ 0 ∧ (-1000000 ≤ a * b ∧ a * b ≤ 1000000) ∧ x = (a * b).tdiv d := by
  unfold quoP at h
  split at h
  · rename_i hc
    simp only [Option.some.injEq] at h
    exact ⟨hc.1, hc.2, h.symm⟩
  · cases h
theorem prod_small {a : Int} (h1 : -1000000 ≤ a) (h2 : a ≤ 1000000) : IntKind.i64.wrap a = a ∧ wrap64 a = a :=
  ⟨IntWalk.i64_in _ (by omega), by unfold wrap64; omega⟩
theorem quo_small {a b : Int} (h1 : -1000000 ≤ a) (h2 : a ≤ 1000000) : -1000000 ≤ a.tdiv b ∧ a.tdiv b ≤ 1000000 := by
  have := Int.natAbs_tdiv_le_natAbs a b
  omega
theorem num_set_self {l : List Int} {i : Nat} {x : Int} (h : i < l.length) : num (l.set i x) i = x := by simp [num, h]
/-- One try of a pair: what it needs and gives. -/
theorem pStep_cases {c : List (List Int)} {i k : Nat} {o o' : List Int} (h : pStep c i (some o) k = some o') :
    (¬ 0 < num o i ∧ o' = o) ∨ (0 < num o i ∧ num o k ≠ 0 ∧ o' = o) ∨ (0 < num o i ∧ num o k = 0 ∧ i = k ∧ o' = o) ∨ (0 < num o i ∧ num o k = 0 ∧ i ≠ k ∧ ent c i k = 0 ∧ o' = o) ∨
    (0 < num o i ∧ num o k = 0 ∧ i ≠ k ∧ ent c i k ≠ 0 ∧ ent c k i ≠ 0 ∧ (-1000000 ≤ num o i * ent c i k ∧ num o i * ent c i k ≤ 1000000) ∧
      (((num o i * ent c i k).tmod (ent c k i) ≠ 0 ∧ o' = o) ∨ ((num o i * ent c i k).tmod (ent c k i) = 0 ∧ o' = o.set k ((num o i * ent c i k).tdiv (ent c k i))))) := by
  simp only [pStep] at h
  by_cases c1 : 0 < num o i
  · by_cases c2 : num o k = 0
    · by_cases c3 : i = k
      · rw [if_neg (by omega)] at h
        exact .inr (.inr (.inl ⟨c1, c2, c3, by simpa using h.symm⟩))
      · by_cases c4 : ent c i k = 0
        · rw [if_neg (by omega)] at h
          exact .inr (.inr (.inr (.inl ⟨c1, c2, c3, c4, by simpa using h.symm⟩)))
        · rw [if_pos ⟨c1, c2, c3, c4⟩] at h
          cases e : quoP (num o i) (ent c i k) (ent c k i) with
          | none => rw [e] at h; cases h
          | some x =>
            rw [e] at h
            obtain ⟨d1, d2, d3⟩ := quoP_some e
            refine .inr (.inr (.inr (.inr ⟨c1, c2, c3, c4, d1, d2, ?_⟩)))
            by_cases c5 : (num o i * ent c i k).tmod (ent c k i) = 0
            · simp only [if_pos c5, Option.some.injEq] at h
              exact .inr ⟨c5, by rw [← h, d3]⟩
            · simp only [if_neg c5, Option.some.injEq] at h
              exact .inl ⟨c5, h.symm⟩
    · rw [if_neg (by omega)] at h
      exact .inr (.inl ⟨c1, c2, by simpa using h.symm⟩)
  · rw [if_neg (by omega)] at h
    exact .inl ⟨c1, by simpa using h.symm⟩
theorem pStep_none (c : List (List Int)) (i : Nat) (k : Nat) : pStep c i none k = none := rfl
theorem rStep_none (c : List (List Int)) (i : Nat) : rStep c none i = none := fold_none (fun _ => rfl) _
theorem nStep_none (c : List (List Int)) (i : Nat) : nStep c none i = none := fold_none (fun k => rStep_none c k) _

end Go.Proofs.YtkgjecabigdnoaaGreat
