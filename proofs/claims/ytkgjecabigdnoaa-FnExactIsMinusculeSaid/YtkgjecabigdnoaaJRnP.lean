/- Norms of root vectors: the program's sums and the reference's are equal modulo 2^64. Plain lists. -/
import Derived.Test.YtkgjecabigdnoaaJSymm
namespace Go.Proofs.Ytkgjecabigdnoaa
open Go.RowKit

theorem wr_eq {a b : Int} : wrap64 a = wrap64 b ↔ a % 18446744073709551616 = b % 18446744073709551616 := by unfold wrap64; omega
theorem wr_mod (a : Int) : wrap64 a % 18446744073709551616 = a % 18446744073709551616 := by unfold wrap64; omega
theorem wr_mul (a b : Int) : wrap64 (wrap64 a * b) = wrap64 (a * b) := by
  rw [wr_eq, Int.mul_emod, wr_mod, ← Int.mul_emod]
theorem wr_mul' (a b : Int) : wrap64 (a * wrap64 b) = wrap64 (a * b) := by rw [Int.mul_comm, wr_mul, Int.mul_comm]
theorem wr_add (a b : Int) : wrap64 (wrap64 a + wrap64 b) = wrap64 (a + b) := by unfold wrap64; omega
theorem wr_add1 (a b : Int) : wrap64 (wrap64 a + b) = wrap64 (a + b) := by unfold wrap64; omega
/-- A sum of k numbers. -/
def smI (f : Nat → Int) : Nat → Int
  | 0 => 0
  | k + 1 => smI f k + f k
theorem smI_mul (a : Int) (f : Nat → Int) : ∀ k, a * smI f k = smI (fun j => a * f j) k
  | 0 => by simp [smI]
  | k + 1 => by simp only [smI, Int.mul_add, smI_mul a f k]
theorem smI_congr {f g : Nat → Int} : ∀ {k : Nat}, (∀ j, j < k → f j = g j) → smI f k = smI g k
  | 0, _ => rfl
  | k + 1, h => by simp only [smI]; rw [smI_congr (fun j hj => h j (by omega)), h k (by omega)]
/-- The program's pairing of a row, up to k. -/
def prI (l r : List Int) : Nat → Int
  | 0 => 0
  | k + 1 => wrap64 (prI l r k + wrap64 (num l k * num r k))
theorem prI_eq (l r : List Int) : ∀ k, prI l r k = wrap64 (smI (fun j => num l j * num r j) k)
  | 0 => by simp [prI, smI, wrap64]
  | k + 1 => by simp only [prI, smI]; rw [prI_eq l r k, wr_add]
/-- The program's norm, up to i. -/
def nmI (d : List Int) (c : List (List Int)) (r : List Int) : Nat → Int
  | 0 => 0
  | i + 1 => wrap64 (nmI d c r i + wrap64 (wrap64 (num d i * num r i) * prI (c[i]?.getD []) r r.length))
/-- The reference's, its inner loop up to k. -/
def nmR (d : List Int) (c : List (List Int)) (r : List Int) (i : Nat) (s : Int) : Nat → Int
  | 0 => s
  | k + 1 => wrap64 (nmR d c r i s k + wrap64 (wrap64 (wrap64 (num d i * num (c[i]?.getD []) k) * num r i) * num r k))
def nmS (d : List Int) (c : List (List Int)) (r : List Int) : Nat → Int
  | 0 => 0
  | i + 1 => nmR d c r i (nmS d c r i) c.length
theorem wr4 (D C R K : Int) : wrap64 (wrap64 (wrap64 (D * C) * R) * K) = wrap64 (D * R * (C * K)) := by
  rw [wr_mul, Int.mul_assoc (wrap64 _), wr_mul]
  congr 1
  ac_rfl
theorem nmR_eq (d : List Int) (c : List (List Int)) (r : List Int) (i : Nat) (s : Int) : ∀ k, wrap64 (nmR d c r i s k) = wrap64 (s + smI (fun j => num d i * num r i * (num (c[i]?.getD []) j * num r j)) k)
  | 0 => by simp [nmR, smI]
  | k + 1 => by
    have ih := nmR_eq d c r i s k
    simp only [nmR, smI]
    rw [wr4]
    generalize num d i * num r i * (num (c[i]?.getD []) k * num r k) = t at *
    generalize smI _ k = u at *
    unfold wrap64 at *
    omega
theorem nmR_wr {d : List Int} {c : List (List Int)} {r : List Int} {i : Nat} {s : Int} (h : wrap64 s = s) : ∀ k, wrap64 (nmR d c r i s k) = nmR d c r i s k
  | 0 => h
  | k + 1 => by simp only [nmR]; unfold wrap64; omega
theorem nmS_wr (d : List Int) (c : List (List Int)) (r : List Int) : ∀ i, wrap64 (nmS d c r i) = nmS d c r i
  | 0 => by simp [nmS, wrap64]
  | i + 1 => nmR_wr (nmS_wr d c r i) _
/-- Both norms are equal. -/
theorem norms {d : List Int} {c : List (List Int)} {r : List Int} (hr : r.length = c.length) : ∀ i, nmI d c r i = nmS d c r i
  | 0 => by simp [nmI, nmS]
  | i + 1 => by
    have ih := norms (d := d) (c := c) (r := r) hr i
    have h1 := nmR_eq d c r i (nmS d c r i) c.length
    have h2 := nmR_wr (d := d) (c := c) (r := r) (i := i) (nmS_wr d c r i) c.length
    simp only [nmI, nmS]
    rw [← h2, h1, prI_eq, wr_mul', wr_mul, ih, hr, ← smI_mul]
    unfold wrap64
    omega
end Go.Proofs.Ytkgjecabigdnoaa
