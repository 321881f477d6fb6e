/- A word and then its reverse bring a weight back, modulo 2^64. Plain. Condition: numbers of 64 bits, the diagonal is 2. -/
import Derived.Test.YtdboknhjbjibjaaJGFin
namespace Go.Proofs.Ytdboknhjbjibjaa
open Go.RowKit
set_option maxRecDepth 20000

def In64 (v : List Int) : Prop := ∀ x ∈ v, -9223372036854775808 ≤ x ∧ x ≤ 9223372036854775807
theorem wrap_q (x : Int) : ∃ q : Int, wrap64 x = x + 18446744073709551616 * q := ⟨-((x + 9223372036854775808) / 18446744073709551616), by unfold wrap64; omega⟩
theorem reflL_at (c : List (List Int)) (i : Nat) (x : Int) : ∀ (l : List Int) (k j : Nat), (reflL c i x l k)[j]? = (l[j]?).map fun y => wrap64 (y - wrap64 (x * ent c (k + j) i))
  | [], _, _ => by simp [reflL]
  | y :: ys, k, 0 => by simp [reflL]
  | y :: ys, k, j + 1 => by
    have := reflL_at c i x ys (k + 1) j
    rw [show k + 1 + j = k + (j + 1) by omega] at this
    simpa [reflL] using this
theorem refl_in {c : List (List Int)} {i : Nat} {v : List Int} : In64 (refl c i v) := fun x hx => by
  obtain ⟨j, hj⟩ := List.getElem?_of_mem hx
  unfold refl at hj
  rw [reflL_at] at hj
  obtain ⟨y, _, e⟩ := Option.map_eq_some_iff.1 hj
  subst e
  unfold wrap64
  omega
theorem wrap_two (x y e : Int) (hy : -9223372036854775808 ≤ y ∧ y ≤ 9223372036854775807) : wrap64 (wrap64 (y - wrap64 (x * e)) - wrap64 (wrap64 (x - wrap64 (x * 2)) * e)) = y := by
  obtain ⟨q1, h1⟩ := wrap_q (x * 2)
  obtain ⟨q2, h2⟩ := wrap_q (x - wrap64 (x * 2))
  have h3 : wrap64 (x - wrap64 (x * 2)) = -x + 18446744073709551616 * (q2 - q1) := by rw [h2, h1]; omega
  have h4 : (-x + 18446744073709551616 * (q2 - q1)) * e = -(x * e) + 18446744073709551616 * ((q2 - q1) * e) := by rw [Int.add_mul, Int.neg_mul, Int.mul_assoc]
  rw [h3, h4]
  generalize x * e = p
  generalize (q2 - q1) * e = s
  clear h1 h2 h3 h4
  unfold wrap64
  omega
theorem refl_two {c : List (List Int)} {i : Nat} {v : List Int} (h2 : ent c i i = 2) (hi : i < v.length) (hv : In64 v) : refl c i (refl c i v) = v := by
  refine List.ext_getElem? fun k => ?_
  have hx : v[i]? = some v[i] := List.getElem?_eq_getElem hi
  have hn : num (refl c i v) i = wrap64 (num v i - wrap64 (num v i * 2)) := by
    have e : (refl c i v)[i]? = some (wrap64 (num v i - wrap64 (num v i * 2))) := by
      unfold refl
      rw [reflL_at, hx, Nat.zero_add, h2, num_at hx]
      rfl
    exact num_at e
  have e1 : ∀ u : List Int, (refl c i u)[k]? = (u[k]?).map fun y => wrap64 (y - wrap64 (num u i * ent c k i)) := fun u => by
    unfold refl
    rw [reflL_at, Nat.zero_add]
  rw [e1, hn, e1]
  cases hy : v[k]? with
  | none => rfl
  | some y => exact congrArg some (wrap_two _ _ _ (hv y (List.mem_of_getElem? hy)))
theorem act_in {c : List (List Int)} : ∀ {w v : List Int}, In64 v → In64 (act c w v)
  | [], _, h => h
  | _ :: _, _, _ => refl_in
theorem act_back {c : List (List Int)} {n : Nat} (hd : ∀ i, i < n → ent c i i = 2) : ∀ {w v : List Int}, (∀ x ∈ w, 0 ≤ x ∧ x < (n : Int)) → v.length = n → In64 v → act c w.reverse (act c w v) = v
  | [], _, _, _, _ => rfl
  | x :: w, v, hw, hn, hv => by
    have h1 := hw x (List.mem_cons_self ..)
    rw [List.reverse_cons, act_snoc]
    have e : act c (x :: w) v = refl c x.toNat (act c w v) := rfl
    rw [e, refl_two (hd _ (by omega)) (by rw [act_length]; omega) (act_in hv)]
    exact act_back hd (fun y hy => hw y (List.mem_cons_of_mem _ hy)) hn hv
end Go.Proofs.Ytdboknhjbjibjaa
