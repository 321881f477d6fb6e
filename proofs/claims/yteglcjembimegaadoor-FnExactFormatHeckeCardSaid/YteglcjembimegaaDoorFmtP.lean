/- Polynomials as text. Condition: sizes up to 2^20. -/
import Derived.Test.YteglcjembimegaaDoorFmtC
namespace Go.Proofs.YteglcjembimegaaDoor
open Go.RowKit
set_option maxRecDepth 20000

def at0 (l : List Int) (k : Nat) : Int := l[k]?.getD 0
/-- The power of q. -/
def qT (k : Nat) : List UInt8 := if k = 0 then [] else if k = 1 then [113] else [113, 94] ++ Lib.itoa k
/-- A number without its sign, and a power of q. -/
def partT (u : Nat) (k : Nat) : List UInt8 := (if k = 0 ∨ u ≠ 1 then Lib.decDigits u else []) ++ qT k
def signT (s : List UInt8) (x : Int) : List UInt8 := if x < 0 then [45] else if s = [] then [] else [43]
def stepT (s : List UInt8) (k : Nat) (x : Int) : List UInt8 := if x = 0 then s else s ++ (signT s x ++ partT x.natAbs k)
/-- The text of the first k coefficients. -/
def pT (l : List Int) : Nat → List UInt8
  | 0 => []
  | k + 1 => stepT (pT l k) k (at0 l k)
def fmtP (l : List Int) : List UInt8 := if pT l l.length = [] then [48] else pT l l.length

theorem partT_zero (u : Nat) : partT u 0 = Lib.decDigits u := by unfold partT qT; rw [if_pos (Or.inl rfl), if_pos rfl, List.append_nil]
theorem partT_ne {u k : Nat} (h : u ≠ 1) : partT u k = Lib.decDigits u ++ qT k := by unfold partT; rw [if_pos (Or.inr h)]
theorem partT_one {k : Nat} (h : k ≠ 0) : partT 1 k = qT k := by unfold partT; rw [if_neg (by simp; omega)]; rfl
theorem qT_len {k : Nat} (h : k ≤ 1048576) : (qT k).length ≤ 23 := by
  unfold qT
  split
  · simp
  · split
    · simp
    · have := Lib.itoa_length_le k (by omega) (by omega)
      simp; omega
theorem itoa_pos {x : Int} (h : ¬ x < 0) : Lib.itoa x = Lib.decDigits x.natAbs := by
  unfold Lib.itoa; rw [if_neg h, show x.toNat = x.natAbs by omega]
theorem itoa_neg {x : Int} (h : x < 0) : Lib.itoa x = 45 :: Lib.decDigits x.natAbs := by
  unfold Lib.itoa; rw [if_pos h]
theorem dig_len2 {x : Int} (h : -9223372036854775808 ≤ x ∧ x ≤ 9223372036854775807) : (Lib.decDigits x.natAbs).length ≤ 21 := by
  have := Lib.itoa_length_le x h.1 h.2
  by_cases hx : x < 0
  · rw [itoa_neg hx] at this; simp at this; omega
  · rwa [itoa_pos hx] at this
theorem partT_len {x : Int} {k : Nat} (h : -9223372036854775808 ≤ x ∧ x ≤ 9223372036854775807) (hk : k ≤ 1048576) : (partT x.natAbs k).length ≤ 44 := by
  have h1 := dig_len2 h
  have h2 := qT_len hk
  unfold partT
  split <;> simp <;> omega
theorem stepT_len {s : List UInt8} {x : Int} {k : Nat} (h : -9223372036854775808 ≤ x ∧ x ≤ 9223372036854775807) (hk : k ≤ 1048576) : (stepT s k x).length ≤ s.length + 45 := by
  have h1 := partT_len h hk
  unfold stepT signT
  split
  · omega
  · split
    · simp; omega
    · split <;> simp <;> omega
theorem at0_in {l : List Int} (h : InL l) (k : Nat) : -9223372036854775808 ≤ at0 l k ∧ at0 l k ≤ 9223372036854775807 := by
  unfold at0
  cases e : l[k]? with
  | none => simp
  | some x => exact h x (List.mem_of_getElem? e)
theorem pT_len {l : List Int} (h : InL l) : ∀ k, k ≤ 1048576 → (pT l k).length ≤ k * 45
  | 0, _ => by simp [pT]
  | k + 1, hk => by
    have h1 := pT_len h k (by omega)
    have h2 := stepT_len (s := pT l k) (k := k) (at0_in h k) (by omega)
    show (stepT (pT l k) k (at0 l k)).length ≤ _
    omega

theorem dig_one {u : Nat} (h : u ≠ 0) : Lib.decDigits u = [49] ↔ u = 1 := by
  constructor
  · intro e
    have hl := congrArg List.length e
    rw [Lib.decDigits_length, List.length_singleton] at hl
    have h10 : u < 10 := by
      rcases Nat.lt_or_ge u 10 with h | h
      · exact h
      · rw [Lib.nDigits_big (by omega)] at hl
        have := Lib.nDigits_pos (u / 10)
        omega
    rw [Lib.decDigits_one h10] at e
    have := congrArg (List.map UInt8.toNat) e
    simp at this
    omega
  · rintro rfl; rw [Lib.decDigits_one (by decide)]; rfl

set_option maxHeartbeats 1000000 in
/-- l19Power for a number above nought, or the least one. -/
theorem powerSpec {x : Int} {k : Nat} {w : World} (h : -9223372036854775808 ≤ x ∧ x ≤ 9223372036854775807) (hx : 0 < x ∨ x ≤ -9223372036854775808) (hk : k ≤ 1048576) :
    Calls Tryd.prog 38 #[.int .i64 x, .int .i64 k] w fun e w' => e = .returned (.string (bs ((if x < 0 then [45] else []) ++ partT x.natAbs k))) ∧ Below w.heap.size w w' := by
  have hit : (if x < 0 then [45] else []) ++ Lib.decDigits x.natAbs = Lib.itoa x := by
    by_cases hn : x < 0
    · rw [if_pos hn, itoa_neg hn]; rfl
    · rw [if_neg hn, itoa_pos hn]; rfl
  have hl := Lib.itoa_length_le x h.1 h.2
  by_cases h0 : k = 0
  · subst h0
    have HR : Hid ((if x < 0 then [45] else []) ++ partT x.natAbs 0 = Lib.itoa x) := Lib.hid (by
      rw [partT_zero, hit])
    rw [HR.out]
    clear hit
    go_enter Tryd.func38, Tryd.ntmps38
    go_wp2_with fail
    refine (formatIntSpec h).mono ?_
    rintro e w1 ⟨rfl, b1⟩
    go_wp2_with fail
    go_ret
    exact ⟨rfl, b1⟩
  · have i0 : ((k : Int) == 0) = false := by simp; omega
    have HR : Hid (x = 1 → (if x < 0 then [45] else []) ++ partT x.natAbs k = qT k) := Lib.hid (fun e => by
      subst e
      rw [if_neg (by decide), show (1 : Int).natAbs = 1 from rfl, partT_one h0]; rfl)
    have HR2 : Hid (x ≠ 1 → (if x < 0 then [45] else []) ++ partT x.natAbs k = Lib.itoa x ++ qT k) := Lib.hid (fun e => by
      rw [partT_ne (by omega), ← List.append_assoc, hit])
    generalize (if x < 0 then [45] else []) ++ partT x.natAbs k = res at *
    clear hit
    by_cases h1 : k = 1
    · have hq : qT k = [113] := by unfold qT; rw [if_neg h0, if_pos h1]
      rw [hq] at HR HR2
      have i1 : ¬ (1 : Int) < (k : Int) := by omega
      clear h0 h1 hq
      by_cases hx1 : x = 1
      · have HRR := Lib.hid (HR.out hx1)
        have i2 : (x == 1) = true := by simp [hx1]
        clear hx1
        go_enter Tryd.func38, Tryd.ntmps38
        go_wp2_with fail
        go_ret
        exact ⟨by rw [HRR.out]; rfl, Below.refl _ _⟩
      · have HRR := Lib.hid (HR2.out hx1)
        have i2 : (x == 1) = false := by simp [hx1]
        have HBB : Hid (bs (Lib.itoa x) ++ ⟨#[113]⟩ = bs res) := Lib.hid (by rw [HRR.out, ← bs_app]; rfl)
        have c1 : ¬ 9223372036854775807 < (bs (Lib.itoa x)).size + 1 := by rw [bs_size]; omega
        have c1' : ¬ 9223372036854775807 < (bs (Lib.itoa x)).size + (ByteArray.mk #[113]).size := by rw [show (ByteArray.mk #[113]).size = 1 from rfl, bs_size]; omega
        clear hx1
        go_enter Tryd.func38, Tryd.ntmps38
        go_wp2_with fail
        refine (formatIntSpec h).mono ?_
        rintro e w1 ⟨rfl, b1⟩
        go_wp2_with fail
        go_ret
        exact ⟨by rw [← HBB.out]; rfl, b1⟩
    · have hq : qT k = [113, 94] ++ Lib.itoa k := by unfold qT; rw [if_neg h0, if_neg h1]
      have hk2 : -9223372036854775808 ≤ (k : Int) ∧ (k : Int) ≤ 9223372036854775807 := by omega
      have hlk := Lib.itoa_length_le k hk2.1 hk2.2
      have i1 : (1 : Int) < (k : Int) := by omega
      have HQB : Hid ((⟨#[113, 94]⟩ : ByteArray) ++ bs (Lib.itoa k) = bs (qT k)) := Lib.hid (by rw [hq, ← bs_app]; rfl)
      have hql : (qT k).length ≤ 23 := qT_len hk
      have c0 : ¬ 9223372036854775807 < 2 + (bs (Lib.itoa k)).size := by rw [bs_size]; omega
      have c0' : ¬ 9223372036854775807 < (ByteArray.mk #[113, 94]).size + (bs (Lib.itoa k)).size := by rw [show (ByteArray.mk #[113, 94]).size = 2 from rfl, bs_size]; omega
      clear h0 h1 hq
      by_cases hx1 : x = 1
      · have HRR := Lib.hid (HR.out hx1)
        have i2 : (x == 1) = true := by simp [hx1]
        clear hx1
        go_enter Tryd.func38, Tryd.ntmps38
        go_wp2_with fail
        refine (formatIntSpec hk2).mono ?_
        rintro e w1 ⟨rfl, b1⟩
        go_wp2_with fail
        go_ret
        exact ⟨by rw [HRR.out, ← HQB.out]; rfl, b1⟩
      · have HRR := Lib.hid (HR2.out hx1)
        have i2 : (x == 1) = false := by simp [hx1]
        have HBB : Hid (bs (Lib.itoa x) ++ ((⟨#[113, 94]⟩ : ByteArray) ++ bs (Lib.itoa k)) = bs res) := Lib.hid (by rw [HQB.out, HRR.out, ← bs_app])
        have c1 : ¬ 9223372036854775807 < (bs (Lib.itoa x)).size + ((⟨#[113, 94]⟩ : ByteArray) ++ bs (Lib.itoa k)).size := by rw [HQB.out, bs_size, bs_size]; omega
        have c1' : ¬ 9223372036854775807 < (bs (Lib.itoa x)).size + (2 + (bs (Lib.itoa k)).size) := by rw [bs_size, bs_size]; omega
        clear hx1
        go_enter Tryd.func38, Tryd.ntmps38
        go_wp2_with fail
        refine (formatIntSpec hk2).mono ?_
        rintro e w1 ⟨rfl, b1⟩
        go_wp2_with fail
        refine (formatIntSpec h).mono ?_
        rintro e w2 ⟨rfl, b2⟩
        go_wp2_with fail
        go_ret
        exact ⟨by rw [← HBB.out]; rfl, Keeps.step b1 b2⟩
end Go.Proofs.YteglcjembimegaaDoor
