/- Sets of points by their masks: the reference's list of all, the program's one by one. Condition: at most four points. -/
import Derived.Test.YteglcjembimegaaAppS
import Derived.Test.YteglcjembimegaaFinL
import Derived.Test.YteglcjembimegaaSums
namespace Go.Proofs.Yteglcjembimegaa
open Go.RowKit
set_option maxRecDepth 20000

def bitsI (n k : Nat) : List Int := (Fin.bits n k).map fun (i : Nat) => (i : Int)
theorem bitsI_step (n k : Nat) : bitsI (n + 1) k = bitsI n k ++ if k / 2 ^ n % 2 = 1 then [(n : Int)] else [] := by
  unfold bitsI
  simp only [Fin.bits, List.map_append]
  split <;> simp
theorem bitsI_len : ∀ (n k : Nat), (bitsI n k).length ≤ n
  | 0, k => by simp [bitsI, Fin.bits]
  | n + 1, k => by
    rw [bitsI_step]
    have := bitsI_len n k
    split <;> simp <;> omega

theorem cast_shr (k i : Nat) : ((k / 2 ^ i : Nat) : Int) = (k : Int) / 2 ^ i := by simp
theorem i1_of {k i : Nat} (h : 0 < k / 2 ^ i) : 0 < (k : Int) / 2 ^ i := by rw [← cast_shr]; omega
theorem i1_no {k i : Nat} (h : ¬ 0 < k / 2 ^ i) : ¬ 0 < (k : Int) / 2 ^ i := by rw [← cast_shr]; omega
theorem and_one (n : Int) : bits .and .i64 n 1 = n % 2 := by
  have h127 : (BitVec.ofInt 64 1).toNat = 2 ^ 1 - 1 := by decide
  have key : (BitVec.ofInt 64 n &&& BitVec.ofInt 64 1).toNat = (n % ((2 ^ 64 : Nat) : Int)).toNat % 2 ^ 1 := by
    rw [BitVec.toNat_and, BitVec.toNat_ofInt, h127, Nat.and_two_pow_sub_one_eq_mod]
  show IntKind.i64.wrap ((BitVec.ofInt 64 n &&& BitVec.ofInt 64 1).toNat : Nat) = n % 2
  rw [key, IntKind.wrap_i64]
  omega
theorem bit_yes {k i : Nat} (h : k / 2 ^ i % 2 = 1) : (bits BinOp.and IntKind.i64 ((k : Int) / 2 ^ i) 1 == 1) = true := by
  rw [and_one, ← cast_shr]; simp only [beq_iff_eq]; omega
theorem bit_no {k i : Nat} (h : ¬ k / 2 ^ i % 2 = 1) : (bits BinOp.and IntKind.i64 ((k : Int) / 2 ^ i) 1 == 1) = false := by
  rw [and_one, ← cast_shr]; simp only [beq_eq_false_iff_ne]; omega
theorem bits_stay {k i : Nat} (h : k / 2 ^ i = 0) {j : Nat} (hij : i ≤ j) : bitsI j k = bitsI i k := by
  induction j with
  | zero =>
    have : i = 0 := by omega
    subst this; rfl
  | succ j ih =>
    rcases Nat.lt_or_ge j i with h1 | h1
    · have : i = j + 1 := by omega
      subst this; rfl
    · have h2 : k / 2 ^ j = 0 := Nat.div_eq_of_lt (Nat.lt_of_lt_of_le ((Nat.div_eq_zero_iff_lt (Nat.two_pow_pos i)).1 h) (Nat.pow_le_pow_right (by omega) h1))
      rw [bitsI_step, h2, ih h1]
      simp

set_option maxHeartbeats 1000000 in
theorem setOfImpl (k : Nat) (hk : k ≤ 15) (w : World) :
    Calls Try.prog 146 #[.int .i64 k] w fun e w' => ∃ r, e = .returned r ∧ FI (New w w') w' r (bitsI 4 k) ∧ Below w.heap.size w w' := by
  have HS := Lib.hid bitsI_step
  have HL := Lib.hid bitsI_len
  go_enter Try.func146, Try.ntmps146
  go_wp2_with fail
  obtain ⟨w1, hw1⟩ : ∃ w1, w1 = w.alloc (.cells #[] 3) := ⟨_, rfl⟩
  obtain ⟨f1, b1⟩ := fresh_of (Below.refl _ w) hw1
  rw [← hw1]
  clear hw1
  go_loopw [3, 4] (fun zz j wr => ∃ (i : Nat) (z : Value), z = zz ∧ i ≤ 4 ∧ j = .int .i64 i ∧ FI (New w wr) wr z (bitsI i k) ∧ Below w.heap.size w wr) (fun _ j _ => 4 - (intOf j).toNat)
  case atStart => exact ⟨0, _, rfl, by omega, rfl, f1, b1⟩
  case round =>
    obtain ⟨i, z, rfl, hi, rfl, hf, hb⟩ := hrel
    by_cases hpos : 0 < k / 2 ^ i
    · have i1 := i1_of hpos
      have hi4 : i < 4 := by
        rcases Nat.lt_or_ge i 4 with h | h
        · exact h
        · have : i = 4 := by omega
          subst this
          have : k / 2 ^ 4 = 0 := Nat.div_eq_of_lt (by omega)
          omega
      have HS2 := Lib.hid (HS.out i k)
      have hl := HL.out i k
      by_cases hbit : k / 2 ^ i % 2 = 1
      · have e1 := bit_yes hbit
        have HS3 : Hid (bitsI (i + 1) k = bitsI i k ++ [(i : Int)]) := Lib.hid (by rw [HS2.out, if_pos hbit])
        clear hbit hpos
        have bb : ∀ wr : World, Below wr.heap.size wr (wr.alloc (.cells #[.int .i64 i] 3)) := fun wr => (Below.refl wr.heap.size wr).alloc (Nat.le_refl _) _
        go_wp2_with (at_builtin; go_must (refine wpList_app (W := w) rfl _ _ rfl rfl (hf.grow (bb _)) (Keeps.step hb (bb _)) rfl (RI.one _ i) ?_ ?_))
        · simp; omega
        · intro v' w3 f3 b3 hg3
          go_wp2_with fail
          go_roundw
          case rel => exact ⟨i + 1, _, rfl, by omega, by go_num, by rw [HS3.out]; exact f3, b3⟩
          case measure => simp [intOf]; omega
      · have e1 := bit_no hbit
        have HS3 : Hid (bitsI (i + 1) k = bitsI i k) := Lib.hid (by rw [HS2.out, if_neg hbit]; simp)
        clear hbit hpos
        go_wp2_with fail
        go_roundw
        case rel => exact ⟨i + 1, _, rfl, by omega, by go_num, by rw [HS3.out]; exact hf, hb⟩
        case measure => simp [intOf]; omega
    · have i1 := i1_no hpos
      have HR : Hid (bitsI i k = bitsI 4 k) := Lib.hid (by
        have h0 : k / 2 ^ i = 0 := Nat.eq_zero_of_not_pos hpos
        refine (bits_stay h0 hi).symm)
      clear hpos
      go_wp2_with fail
      go_ret
      exact ⟨_, rfl, by rw [← HR.out]; exact hf, hb⟩
def setsL (n : Nat) : Nat → List (List Int)
  | 0 => []
  | k + 1 => setsL n k ++ [bitsI n (k + 1)]
theorem setsL_len (n : Nat) : ∀ k, (setsL n k).length = k
  | 0 => rfl
  | k + 1 => by simp [setsL, setsL_len n k]
theorem setsL_at (n : Nat) : ∀ (k j : Nat), j < k → (setsL n k)[j]? = some (bitsI n (j + 1))
  | 0, j, h => by omega
  | k + 1, j, h => by
    simp only [setsL]
    rcases Nat.lt_or_ge j k with h1 | h1
    · rw [List.getElem?_append_left (by rw [setsL_len]; exact h1)]
      exact setsL_at n k j h1
    · have : j = k := by omega
      subst this
      rw [List.getElem?_append_right (by rw [setsL_len]; exact Nat.le_refl _), setsL_len]
      simp

theorem wpow_lt {n k : Nat} (hn : n ≤ 4) : (k : Int) + 1 < wrap64 (2 ^ n) ↔ k + 1 < 2 ^ n := by
  match n, hn with
  | 0, _ => simp [wrap64]; omega
  | 1, _ => simp [wrap64]; omega
  | 2, _ => simp [wrap64]; omega
  | 3, _ => simp [wrap64]; omega
  | 4, _ => simp [wrap64]; omega

set_option maxHeartbeats 1000000 in
theorem setsSpec (n : Nat) (hn : n ≤ 4) (w : World) :
    Calls Try.prog 143 #[.int .i64 n] w fun e w' => ∃ r, e = .returned r ∧ FR (New w w') w' r (setsL n (2 ^ n - 1)) ∧ Below w.heap.size w w' := by
  have HS := Lib.hid bitsI_step
  have HL := Lib.hid bitsI_len
  go_enter Try.func143, Try.ntmps143
  go_wp2_with fail
  obtain ⟨w1, hw1⟩ : ∃ w1, w1 = w.alloc (.cells #[] 23) := ⟨_, rfl⟩
  obtain ⟨f1, b1⟩ := FR.empty_of (Below.refl _ w) hw1
  rw [← hw1]
  clear hw1
  go_loopw [3, 4] (fun zz j wr => ∃ (k : Nat) (z : Value), z = zz ∧ k + 1 ≤ 2 ^ n ∧ j = .int .i64 ((k : Int) + 1) ∧ FR (New w wr) wr z (setsL n k) ∧ Below w.heap.size w wr) (fun _ j _ => 2 ^ n - (intOf j).toNat)
  case atStart => exact ⟨0, _, rfl, Nat.one_le_two_pow, rfl, f1, b1⟩
  case round =>
    obtain ⟨k, z, rfl, hk, rfl, hf, hb⟩ := hrel
    have hl := setsL_len n k
    have HLEN := Lib.hid hl
    clear hl
    generalize hA : setsL n k = A at *
    have HST : Hid (setsL n (k + 1) = A ++ [bitsI n (k + 1)]) := Lib.hid (by rw [← hA]; rfl)
    have hk16 : k + 1 ≤ 16 := Nat.le_trans hk (Nat.pow_le_pow_right (n := 2) (by omega) hn)
    by_cases hlt : k + 1 < 2 ^ n
    · have i1 := (wpow_lt hn (k := k)).2 hlt
      clear hA
      go_wp2_with fail
      obtain ⟨w2, hw2⟩ : ∃ w2, w2 = wr.alloc (.cells #[] 3) := ⟨_, rfl⟩
      obtain ⟨f2, b2⟩ := fresh_of (Below.refl _ wr) hw2
      rw [← hw2]
      clear hw2
      generalize wr = wO at *
      go_loopw [5, 6] (fun yy j wr => ∃ (i : Nat) (y : Value), y = yy ∧ i ≤ n ∧ j = .int .i64 i ∧ FI (New wO wr) wr y (bitsI i (k + 1)) ∧ Below wO.heap.size wO wr) (fun _ j _ => n - (intOf j).toNat)
      case atStart => exact ⟨0, _, rfl, Nat.zero_le _, rfl, f2, b2⟩
      case round =>
        obtain ⟨i, y, rfl, hi, rfl, hfy, hby⟩ := hrel
        have hl := HL.out i (k + 1)
        by_cases hin : i < n
        · have HS2 := Lib.hid (HS.out i (k + 1))
          have i2 : (i : Int) < (n : Int) := by omega
          by_cases hbit : (k + 1) / 2 ^ i % 2 = 1
          · have e1 : (bits BinOp.and IntKind.i64 (((k : Int) + 1) / 2 ^ i) 1 == 1) = true := by rw [show ((k : Int) + 1) = ((k + 1 : Nat) : Int) by omega]; exact bit_yes hbit
            have HS3 : Hid (bitsI (i + 1) (k + 1) = bitsI i (k + 1) ++ [(i : Int)]) := Lib.hid (by rw [HS2.out, if_pos hbit])
            clear hbit
            have bb : ∀ wr : World, Below wr.heap.size wr (wr.alloc (.cells #[.int .i64 i] 3)) := fun wr => (Below.refl wr.heap.size wr).alloc (Nat.le_refl _) _
            go_wp2_with (at_builtin; go_must (refine wpList_app (W := wO) rfl _ _ rfl rfl (hfy.grow (bb _)) (Keeps.step hby (bb _)) rfl (RI.one _ i) ?_ ?_))
            · simp; omega
            · intro v' w3 f3 b3 hg3
              go_wp2_with fail
              go_roundw
              case rel => exact ⟨i + 1, _, rfl, by omega, by go_num, by rw [HS3.out]; exact f3, b3⟩
              case measure => simp [intOf]; omega
          · have e1 : (bits BinOp.and IntKind.i64 (((k : Int) + 1) / 2 ^ i) 1 == 1) = false := by rw [show ((k : Int) + 1) = ((k + 1 : Nat) : Int) by omega]; exact bit_no hbit
            have HS3 : Hid (bitsI (i + 1) (k + 1) = bitsI i (k + 1)) := Lib.hid (by rw [HS2.out, if_neg hbit]; simp)
            clear hbit
            go_wp2_with fail
            go_roundw
            case rel => exact ⟨i + 1, _, rfl, by omega, by go_num, by rw [HS3.out]; exact hfy, hby⟩
            case measure => simp [intOf]; omega
        · have hin2 : i = n := by omega
          subst hin2
          have hf2 := hf.grow hby
          have hb2 := Keeps.step hb hby
          have hs0 : w.heap.size ≤ wO.heap.size := hb.size
          obtain ⟨ay, cy, rfl⟩ := hfy.form
          generalize (bitsI i (k + 1)).length = ly at *
          have hy : RI (New w wr) wr (.slice ay ly cy) (bitsI i (k + 1)) := hfy.reads.mono (fun b hb' => ⟨Nat.le_trans hs0 hb'.1, hb'.2⟩)
          have bb : Below wr.heap.size wr (wr.alloc (.cells #[.slice ay ly cy] 23)) := (Below.refl _ _).alloc (Nat.le_refl _) _
          have hcn : (wr.alloc (.cells #[.slice ay ly cy] 23)).cell? ⟨wr.heap.size, 0, none⟩ = some (.slice ay ly cy) := by go_simp
          have hln : A.length + 1 ≤ 67108864 := by have := HLEN.out; omega
          go_wp2_with (at_builtin; go_must (refine wpList_appR (W := w) rfl _ _ rfl rfl (hf2.grow bb) (Keeps.step hb2 bb) rfl hcn ((hy.below bb).mono (fun b hb' => ⟨hb'.1, Nat.lt_of_lt_of_le hb'.2 bb.size⟩)) hln ?_))
          intro v' w4 f4 b4 _
          go_wp2_with fail
          go_roundw
          case rel => exact ⟨k + 1, _, rfl, hlt, by go_num, by rw [HST.out]; exact f4, b4⟩
          case measure => simp [intOf]; omega
    · have i1 : ¬ ((k : Int) + 1 < wrap64 (2 ^ n)) := fun h => hlt ((wpow_lt hn).1 h)
      have HR : Hid (A = setsL n (2 ^ n - 1)) := Lib.hid (by rw [← hA]; congr 1; omega)
      clear hA hlt
      go_wp2_with fail
      go_ret
      exact ⟨_, rfl, by rw [← HR.out]; exact hf, hb⟩
end Go.Proofs.Yteglcjembimegaa
