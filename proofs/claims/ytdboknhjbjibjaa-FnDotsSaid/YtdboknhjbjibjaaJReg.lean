/- A word that fixes a weight off all walls has even length. Plain: functions of numbers. No condition. -/
import Derived.Test.YtdboknhjbjibjaaJGOrbP
import Derived.Test.YtdboknhjbjibjaaJGFin
namespace Go.Proofs.Ytdboknhjbjibjaa.Cox

section
variable {n : Nat} {c : Nat → Nat → Int}
theorem dot_nonpos : ∀ {n : Nat} {f g : Nat → Int}, (∀ k, k < n → f k ≤ 0) → (∀ k, k < n → 0 ≤ g k) → dotN f g n ≤ 0
  | 0, _, _, _, _ => Int.le_refl _
  | n + 1, f, g, hf, hg => by
    have h1 := dot_nonpos (n := n) (f := f) (g := g) (fun k hk => hf k (by omega)) (fun k hk => hg k (by omega))
    have h2 := Int.mul_nonneg (show 0 ≤ -(f n) by have := hf n (by omega); omega) (hg n (by omega))
    rw [Int.neg_mul] at h2
    simp only [dotN]
    omega
theorem reg_even (h : Car n c) {w : List Nat} (hw : Lets n w) {m : Nat → Int} (hm : ∀ k, k < n → 0 < m k) (hf : ∀ k, k < n → aW c w m k = m k) : w.length % 2 = 0 := by
  refine even_id h _ w (Nat.le_refl _) hw (pos_one h _ w (Nat.le_refl _) hw fun k hk => ?_)
  have hr := lets_rev hw
  rcases coh h hr hk with hp | hn
  · rw [num_height h hw hk]
    exact dot_nonneg hp.2 (fun _ _ => by show (0 : Int) ≤ 1; omega)
  · have h1 : aW c w m k ≤ 0 := by
      rw [num_height h hw hk]
      exact dot_nonpos hn.2 (fun j hj => by have := hm j hj; omega)
    rw [hf k hk] at h1
    have := hm k hk
    omega
end
end Go.Proofs.Ytdboknhjbjibjaa.Cox
