/- Numbers that make a matrix symmetric, by the reference. Condition: sizes up to 2^24. Norms of root vectors: the program's sums and the reference's are equal modulo 2^64. Plain lists. The norm of a root vector, by the reference; the program's pairing of a row. Condition: sizes up to 2^24. -/
import Derived.Test.YtkgjecabigdnoaaGreatJScale
import Derived.Test.YtkgjecabigdnoaaGreatJGStar
import Derived.Test.YtkgjecabigdnoaaGreatJSymm
/-! Numbers that make a matrix symmetric, by the reference. Condition: sizes up to 2^24. -/
namespace Go.Proofs.YtkgjecabigdnoaaGreat
open Go.RowKit
set_option maxRecDepth 20000

theorem RI.setOff {lo hi : Nat} {w : World} {v : Value} {l : List Int} {g j : Nat} {x : Value} (h : RI (Bt lo hi) w v l) (hg : g < lo ∨ hi ≤ g) : RI (Bt lo hi) (w.setCell ⟨g, j, none⟩ x) v l :=
  RI.keep h fun b hb _ => heap_setCell_other w ⟨g, j, none⟩ b x (fun e => by have e : b = g := e; subst e; have := hb.1; have := hb.2; omega)
theorem RII.setOff {lo hi : Nat} {w : World} {v : Value} {l : List (List Int)} {g j : Nat} {x : Value} (h : RII (Bt lo hi) w v l) (hg : g < lo ∨ hi ≤ g) : RII (Bt lo hi) (w.setCell ⟨g, j, none⟩ x) v l :=
  RII.keep h fun b hb _ => heap_setCell_other w ⟨g, j, none⟩ b x (fun e => by have e : b = g := e; subst e; have := hb.1; have := hb.2; omega)
theorem mem_partsS {c : List (List Int)} {p : List Nat} (h : p ∈ partsS c) : (∀ j ∈ p, j < c.length) ∧ p.length ≤ c.length := by
  unfold partsS partsTo at h
  obtain ⟨i, hi, e⟩ := List.mem_filterMap.1 h
  split at e
  · simp only [Option.some.injEq] at e
    subst e
    exact ⟨fun j hj => part_lt hj, Nat.le_trans (List.length_filter_le _ _) (by simp)⟩
  · cases e
theorem tryS_cases {c : List (List Int)} {p : List Nat} {o o' : List Int} {f : Nat} {d : Int} (h : tryS c p o (f + 1) d = some o') :
    ∃ l, scaleS c p d = some l ∧ ((fineS l p = true ∧ o' = layS l o p) ∨ (fineS l p = false ∧ tryS c p o f (d + 1) = some o')) := by
  simp only [tryS] at h
  cases e : scaleS c p d with
  | none => rw [e] at h; cases h
  | some l =>
    rw [e] at h
    simp only at h
    refine ⟨l, rfl, ?_⟩
    cases e2 : fineS l p with
    | true => rw [e2, if_pos rfl] at h; simp only [Option.some.injEq] at h; exact .inl ⟨rfl, h.symm⟩
    | false => rw [e2, if_neg (by simp)] at h; exact .inr ⟨rfl, h⟩
theorem fine_step {l : List Int} {p : List Nat} {k x : Nat} (h : p[k]? = some x) : fineS l (p.take (k + 1)) = (fineS l (p.take k) && decide (0 < num l x)) := by
  rw [take_step h]; simp [fineS]
theorem lay_step {l o : List Int} {p : List Nat} {k x : Nat} (h : p[k]? = some x) : layS l o (p.take (k + 1)) = (layS l o (p.take k)).set x (num l x) := by
  rw [take_step h]; simp [layS]
theorem layS_length {l : List Int} : ∀ (p : List Nat) (o : List Int), (layS l o p).length = o.length
  | [], _ => rfl
  | x :: p, o => by
    have := layS_length (l := l) p (o.set x (num l x))
    simpa [layS] using this
theorem symPartS_none (c : List (List Int)) (p : List Nat) : symPartS c none p = none := rfl
theorem tryS_length {c : List (List Int)} {p : List Nat} {o o' : List Int} : ∀ (f : Nat) (d : Int), tryS c p o f d = some o' → o'.length = o.length
  | 0, _, h => by simp only [tryS, Option.some.injEq] at h; rw [h]
  | f + 1, d, h => by
    obtain ⟨l, _, ⟨_, rfl⟩ | ⟨_, h2⟩⟩ := tryS_cases h
    · exact layS_length p o
    · exact tryS_length f (d + 1) h2

/-- What both give. -/
def smR (c : List (List Int)) : List Int := if finB c = true then symP c else []
def SmC (c : List (List Int)) (w : World) (e : Ending) (w' : World) : Prop := ∃ r, e = .returned (.tuple #[r, .bool (finB c)]) ∧ FI (New w w') w' r (smR c) ∧ Below w.heap.size w w'

end Go.Proofs.YtkgjecabigdnoaaGreat

/-! Norms of root vectors: the program's sums and the reference's are equal modulo 2^64. Plain lists. -/
namespace Go.Proofs.YtkgjecabigdnoaaGreat
open Go.RowKit

theorem wr_eq {a b : Int} : wrap64 a = wrap64 b ↔ a % 18446744073709551616 = b % 18446744073709551616 := by unfold wrap64; omega
theorem wr_mod (a : Int) : wrap64 a % 18446744073709551616 = a % 18446744073709551616 := by unfold wrap64; omega
theorem wr_mul (a b : Int) : wrap64 (wrap64 a * b) = wrap64 (a * b) := by
  rw [wr_eq, Int.mul_emod, wr_mod, ← Int.mul_emod]
theorem wr_mul' (a b : Int) : wrap64 (a * wrap64 b) = wrap64 (a * b) := by rw [Int.mul_comm, wr_mul, Int.mul_comm]
theorem wr_add (a b : Int) : wrap64 (wrap64 a + wrap64 b) = wrap64 (a + b) := by unfold wrap64; omega
theorem wr_add1 (a b : Int) : wrap64 (wrap64 a + b) = wrap64 (a + b) := by unfold wrap64; omega
/-- A sum of k numbers. -/
def smI (f : Nat → Int) : Nat → Int
  | 0 => 0
  | k + 1 => smI f k + f k
theorem smI_mul (a : Int) (f : Nat → Int) : ∀ k, a * smI f k = smI (fun j => a * f j) k
  | 0 => by simp [smI]
  | k + 1 => by simp only [smI, Int.mul_add, smI_mul a f k]
theorem smI_congr {f g : Nat → Int} : ∀ {k : Nat}, (∀ j, j < k → f j = g j) → smI f k = smI g k
  | 0, _ => rfl
  | k + 1, h => by simp only [smI]; rw [smI_congr (fun j hj => h j (by omega)), h k (by omega)]
/-- The program's pairing of a row, up to k. -/
def prI (l r : List Int) : Nat → Int
  | 0 => 0
  | k + 1 => wrap64 (prI l r k + wrap64 (num l k * num r k))
theorem prI_eq (l r : List Int) : ∀ k, prI l r k = wrap64 (smI (fun j => num l j * num r j) k)
  | 0 => by simp [prI, smI, wrap64]
  | k + 1 => by simp only [prI, smI]; rw [prI_eq l r k, wr_add]
/-- The program's norm, up to i. -/
def nmI (d : List Int) (c : List (List Int)) (r : List Int) : Nat → Int
  | 0 => 0
  | i + 1 => wrap64 (nmI d c r i + wrap64 (wrap64 (num d i * num r i) * prI (c[i]?.getD []) r r.length))
/-- The reference's, its inner loop up to k. -/
def nmR (d : List Int) (c : List (List Int)) (r : List Int) (i : Nat) (s : Int) : Nat → Int
  | 0 => s
  | k + 1 => wrap64 (nmR d c r i s k + wrap64 (wrap64 (wrap64 (num d i * num (c[i]?.getD []) k) * num r i) * num r k))
def nmS (d : List Int) (c : List (List Int)) (r : List Int) : Nat → Int
  | 0 => 0
  | i + 1 => nmR d c r i (nmS d c r i) c.length
theorem wr4 (D C R K : Int) : wrap64 (wrap64 (wrap64 (D * C) * R) * K) = wrap64 (D * R * (C * K)) := by
  rw [wr_mul, Int.mul_assoc (wrap64 _), wr_mul]
  congr 1
  ac_rfl
theorem nmR_eq (d : List Int) (c : List (List Int)) (r : List Int) (i : Nat) (s : Int) : ∀ k, wrap64 (nmR d c r i s k) = wrap64 (s + smI (fun j => num d i * num r i * (num (c[i]?.getD []) j * num r j)) k)
  | 0 => by simp [nmR, smI]
  | k + 1 => by
    have ih := nmR_eq d c r i s k
    simp only [nmR, smI]
    rw [wr4]
    generalize num d i * num r i * (num (c[i]?.getD []) k * num r k) = t at *
    generalize smI _ k = u at *
    unfold wrap64 at *
    omega
theorem nmR_wr {d : List Int} {c : List (List Int)} {r : List Int} {i : Nat} {s : Int} (h : wrap64 s = s) : ∀ k, wrap64 (nmR d c r i s k) = nmR d c r i s k
  | 0 => h
  | k + 1 => by simp only [nmR]; unfold wrap64; omega
theorem nmS_wr (d : List Int) (c : List (List Int)) (r : List Int) : ∀ i, wrap64 (nmS d c r i) = nmS d c r i
  | 0 => by simp [nmS, wrap64]
  | i + 1 => nmR_wr (nmS_wr d c r i) _
/-- Both norms are equal. -/
theorem norms {d : List Int} {c : List (List Int)} {r : List Int} (hr : r.length = c.length) : ∀ i, nmI d c r i = nmS d c r i
  | 0 => by simp [nmI, nmS]
  | i + 1 => by
    have ih := norms (d := d) (c := c) (r := r) hr i
    have h1 := nmR_eq d c r i (nmS d c r i) c.length
    have h2 := nmR_wr (d := d) (c := c) (r := r) (i := i) (nmS_wr d c r i) c.length
    simp only [nmI, nmS]
    rw [← h2, h1, prI_eq, wr_mul', wr_mul, ih, hr, ← smI_mul]
    unfold wrap64
    omega
end Go.Proofs.YtkgjecabigdnoaaGreat

/-! The norm of a root vector, by the reference; the program's pairing of a row. Condition: sizes up to 2^24. -/
namespace Go.Proofs.YtkgjecabigdnoaaGreat
open Go.RowKit
set_option maxRecDepth 20000

/-- What both give. -/
def nrR (c : List (List Int)) (r : List Int) : Int := if finB c = true ∧ isW c r = true then nmI (symP c) c r r.length else 0
def NrC (c : List (List Int)) (r : List Int) (w : World) (e : Ending) (w' : World) : Prop := e = .returned (.int .i64 (nrR c r)) ∧ Below w.heap.size w w'

set_option maxHeartbeats 1000000 in
theorem pairRowImpl {S S' : Nat → Prop} {u v : Value} {l r : List Int} {w : World} (h : RI S w u l) (h' : RI S' w v r) (hlr : r.length ≤ l.length) (hl : r.length ≤ 16777216) :
    Calls Tryz.prog 51 #[u, v] w fun e w' => e = .returned (.int .i64 (prI l r r.length)) ∧ ∃ m, w' = w.drewN m := by
  obtain ⟨a, cap, rfl⟩ := h.form
  obtain ⟨a', cap', rfl⟩ := h'.form
  have HL : Hid (∀ k x y, l[k]? = some x → r[k]? = some y → prI l r (k + 1) = wrap64 (prI l r k + wrap64 (x * y))) := Lib.hid (fun k x y h1 h2 => by simp only [prI]; rw [num_at h1, num_at h2])
  have H0 : Hid (prI l r 0 = 0) := Lib.hid rfl
  generalize hn : l.length = n at *
  generalize hn' : r.length = m at *
  clear hn hn'
  have mixed : Tryz.prog.follows .mixedOrders = true := by kernel_rfl
  go_enter Tryz.func51, Tryz.ntmps51
  go_wp2_with fail
  go_loopw [5, 10] (fun s i wr => ∃ (k d : Nat) (t : Int), k ≤ m ∧ s = .int .i64 t ∧ i = .int .i64 k ∧ wr = w.drewN d ∧ Hid (prI l r k = t)) (fun _ i _ => m - (intOf i).toNat)
  case atStart => exact ⟨0, 0, 0, Nat.zero_le _, rfl, rfl, rfl, H0⟩
  case round =>
    obtain ⟨k, d, t, hk, rfl, rfl, rfl, HT⟩ := hrel
    by_cases hlt : k < m
    · obtain ⟨b, o, x, rfl, hc, hx⟩ := h.at (show k < n by omega)
      obtain ⟨b', o', y, rfl, hc', hy⟩ := h'.at hlt
      have b1 : (k : Int) < (m : Int) := by omega
      have b2 : (k : Int) < (n : Int) := by omega
      have b3 : (0 : Int) ≤ (k : Int) := by omega
      have HT2 := Lib.hid (HL.out k x y hx.out hy.out)
      rw [HT.out] at HT2
      clear hx hy
      go_wp2_with fail
      first | go_quiet (fail) | skip
      go_wp2_with fail
      go_roundw
      case rel => first | exact ⟨k + 1, _, _, by omega, rfl, by go_num, rfl, HT2⟩ | exact ⟨k + 1, d + nq, _, by omega, rfl, by go_num, by simp, HT2⟩
      case measure => simp [intOf]; omega
    · have b1 : ¬ (k : Int) < (m : Int) := by omega
      have hkm : k = m := by omega
      have HR : Hid (t = prI l r m) := Lib.hid (by rw [← HT.out, hkm])
      clear hkm
      go_wp2_with fail
      go_ret
      exact ⟨ret_int HR.out, d, rfl⟩

end Go.Proofs.YtkgjecabigdnoaaGreat
