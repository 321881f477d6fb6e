/- Whether the group of a matrix is finite: both sides. Condition: sizes up to 2^24. -/
import Derived.Test.YteglcjembimegaaSubS
import Derived.Test.YteglcjembimegaaDetI
import Derived.Test.YteglcjembimegaaNorm
namespace Go.Proofs.Yteglcjembimegaa
open Go.RowKit
set_option maxRecDepth 20000

def finB (c : List (List Int)) : Bool := isC c && Fin.isFin c
theorem bitsI_length (n k : Nat) : (bitsI n k).length = (Fin.bits n k).length := by simp [bitsI]
theorem bits_ne : ∀ n, n < 5 → ∀ k, k < 16 → 1 ≤ k → k < 2 ^ n → 1 ≤ (Fin.bits n k).length := by decide
theorem bitsI_ne {n k : Nat} (hn : n ≤ 4) (h1 : 1 ≤ k) (h2 : k < 2 ^ n) : 1 ≤ (bitsI n k).length := by
  rw [bitsI_length]
  exact bits_ne n (by omega) k (by have := Nat.pow_le_pow_right (n := 2) (by omega) hn; omega) h1 h2
theorem bits_pts {n k m : Nat} (hm : n ≤ m) : Pts m (bitsI n k) := by
  intro j x hx
  obtain ⟨i, hi, rfl⟩ := List.mem_map.1 (List.mem_of_getElem? hx)
  exact ⟨i, rfl, Nat.lt_of_lt_of_le (Fin.bits_lt hi) hm⟩
theorem bits_asc : ∀ (n k : Nat), Asc (bitsI n k)
  | 0, k => by intro j x y h; simp [bitsI, Fin.bits] at h
  | n + 1, k => by
    have ih := bits_asc n k
    intro j x y hx hy
    rw [bitsI_step] at hx hy
    by_cases h : k / 2 ^ n % 2 = 1
    · rw [if_pos h] at hx hy
      rcases Nat.lt_or_ge (j + 1) (bitsI n k).length with h1 | h1
      · rw [List.getElem?_append_left (by omega)] at hx
        rw [List.getElem?_append_left h1] at hy
        exact ih j x y hx hy
      · rw [List.getElem?_append_right h1] at hy
        have h2 : j + 1 - (bitsI n k).length = 0 := by
          rcases Nat.eq_zero_or_pos (j + 1 - (bitsI n k).length) with h | h
          · exact h
          · rw [List.getElem?_eq_none (by simp; omega)] at hy; cases hy
        rw [h2] at hy
        simp at hy
        rw [List.getElem?_append_left (by omega)] at hx
        obtain ⟨i, rfl, hi⟩ := bits_pts (Nat.le_refl n) j x hx
        omega
    · rw [if_neg h, List.append_nil] at hx hy
      exact ih j x y hx hy
theorem sub_sqr (c : List (List Int)) (l : List Int) : Fin.Sqr (subL c l) l.length := by
  refine ⟨by simp [subL], fun r hr => ?_⟩
  obtain ⟨i, _, rfl⟩ := List.mem_map.1 hr
  simp [rowL]
theorem ent_small {c : List (List Int)} (hc : CartanP c) (i j : Nat) : (ent c i j).natAbs ≤ 3 := by
  by_cases hi : i < c.length
  · by_cases hj : j < c.length
    · by_cases h : i = j
      · subst h; rw [hc.car.diag i hi]; decide
      · have := hc.car.off i j hi hj h; omega
    · have hr : (c[i]).length = c.length := hc.row _ (List.getElem_mem hi)
      have : (c[i])[j]? = none := List.getElem?_eq_none (by omega)
      simp [ent, hi, this]
  · have : c[i]? = none := List.getElem?_eq_none (by omega)
    simp [ent, this]
theorem car_small {c : List (List Int)} (hc : CartanP c) (l : List Int) : Fin.Small 2000 (subL c l) := by
  intro r hr x hx
  obtain ⟨i, _, rfl⟩ := List.mem_map.1 hr
  obtain ⟨j, _, rfl⟩ := List.mem_map.1 hx
  have := ent_small hc i.toNat j.toNat
  omega
theorem minor_sub (c : List (List Int)) (n k : Nat) : Fin.minor c n k = Fin.det (bitsI n k).length (subL c (bitsI n k)) := by
  rw [bitsI_length, subL_bits]; rfl

/-- A slice is returned, of a length with P; memory has only grown. -/
def SliceWith (P : Nat → Prop) (w : World) (e : Ending) (w' : World) : Prop := ∃ a n cap, e = .returned (.slice a n cap) ∧ P n ∧ Below w.heap.size w w'

set_option maxHeartbeats 1000000 in
theorem witnessSpec {S : Nat → Prop} {u : Value} {c : List (List Int)} {w : World} (h : RII S w u c) (hc : CartanP c) (hl : total c ≤ 16777216) :
    Calls Try.prog 106 #[u] w (SliceWith (fun n => ((n : Int) == 0) = Fin.isFin c) w) := by
  obtain ⟨a, cap, rfl⟩ := h.form
  have hn4 := hc.le
  have HC := Lib.hid hc
  have HN : Hid (∀ q, 1 ≤ q → q ≤ 2 ^ c.length - 1 → ¬ 0 < Fin.minor c c.length q → Fin.isFin c = false) := Lib.hid (fun q h1 h2 h3 => by
    cases e : Fin.isFin c
    · rfl
    · exact absurd (Fin.posUp_iff.1 e q h1 h2) h3)
  have HY : Hid ((∀ q, 1 ≤ q → q ≤ 2 ^ c.length - 1 → 0 < Fin.minor c c.length q) → Fin.isFin c = true) := Lib.hid (fun h => Fin.posUp_iff.2 h)
  have hpw : 1 ≤ 2 ^ c.length := Nat.one_le_two_pow
  have hpw2 : 2 ^ c.length ≤ 16 := Nat.pow_le_pow_right (n := 2) (by omega) hn4
  generalize Fin.isFin c = res at *
  clear hc
  generalize hn : c.length = n at *
  have HNN := Lib.hid hn
  clear hn
  have HL := Lib.hid (setsL_len n (2 ^ n - 1))
  have HAT := Lib.hid (setsL_at n (2 ^ n - 1))
  generalize hm : 2 ^ n - 1 = m at *
  have HM := Lib.hid hm
  have hm15 : m ≤ 15 := by omega
  clear hm
  go_enter Try.func106, Try.ntmps106
  go_wp2_with fail
  refine (isCartanSpec h hl).mono ?_
  rintro e w1 ⟨rfl, hw1⟩
  rw [isC_iff.2 HC.out]
  have b1 := below_quiet hw1
  clear hw1
  go_wp2_with fail
  refine (setsSpec n (by omega) w1).mono ?_
  rintro e w2 ⟨r2, rfl, f2, b2⟩
  rw [HM.out] at f2
  have h2 := f2.reads
  obtain ⟨a2, c2, rfl⟩ := h2.form
  rw [HL.out] at h2 ⊢
  have b02 := Keeps.step b1 b2
  clear f2 b1 b2
  go_wp2_with fail
  go_loopw [4] (fun j wr => ∃ (k : Nat), k ≤ m ∧ j = .int .i64 k ∧ Hid (∀ q, 1 ≤ q → q ≤ k → 0 < Fin.minor c n q) ∧ Below w2.heap.size w2 wr) (fun j _ => m - (intOf j).toNat)
  case atStart => exact ⟨0, Nat.zero_le _, rfl, Lib.hid (fun q h1 h2 => by omega), Below.refl _ _⟩
  case round =>
    obtain ⟨k, hk, rfl, HK, hb⟩ := hrel
    have hb0 := Keeps.step b02 hb
    by_cases hlt : k < m
    · obtain ⟨b, o, r, l, rfl, hcr, hr, hl1⟩ := (h2.below hb).at hlt
      have hle : l = bitsI n (k + 1) := by have := hl1.out; rw [HAT.out k hlt] at this; exact (Option.some.inj this).symm
      have hkn : k + 1 < 2 ^ n := by have := HM.out; omega
      have HNE := Lib.hid (bitsI_ne (n := n) (by omega) (by omega) hkn)
      have HMI := Lib.hid (minor_sub c n (k + 1))
      have HPT := Lib.hid (bits_pts (k := k + 1) (Nat.le_refl n))
      have HAS := Lib.hid (bits_asc n (k + 1))
      have HBL := Lib.hid (bitsI_len n (k + 1))
      rw [← hle] at HNE HMI HPT HAS HBL
      clear hle hl1 hkn
      obtain ⟨ar, cr, rfl⟩ := hr.form
      have i1 : (k : Int) < (m : Int) := by omega
      have hu := h.below hb0
      go_wp2_with fail
      refine (subCartanSpec hu hr HC.out hl (by rw [HNN.out]; exact HPT.out) HAS.out HNE.out (by have := HBL.out; omega)).mono ?_
      rintro e w4 ⟨r4, rfl, f4, b4⟩
      go_wp2_with fail
      refine (detSpec f4.reads (sub_sqr c l) (car_small HC.out l) (by have := HBL.out; omega)).mono ?_
      rintro e w5 ⟨rfl, b5⟩
      rw [← HMI.out]
      have b25 := Keeps.step (Keeps.step hb b4) b5
      have b05 := Keeps.step b02 b25
      by_cases hpos : 0 < Fin.minor c n (k + 1)
      · have HK2 : Hid (∀ q, 1 ≤ q → q ≤ k + 1 → 0 < Fin.minor c n q) := Lib.hid (fun q h1 h2 => by
          rcases Nat.lt_or_ge k q with h3 | h3
          · have : q = k + 1 := by omega
            subst this; exact hpos
          · exact HK.out q h1 h3)
        have i5 : ¬ Fin.minor c n (k + 1) ≤ 0 := by omega
        clear hpos
        generalize Fin.minor c n (k + 1) = D at *
        go_wp2_with fail
        go_roundw
        case rel => exact ⟨k + 1, by omega, by go_num, HK2, b25⟩
        case measure => simp [intOf]; omega
      · have HF := Lib.hid (HN.out (k + 1) (by omega) (by have := HM.out; omega) (by omega))
        have i5 : Fin.minor c n (k + 1) ≤ 0 := by omega
        clear hpos
        generalize Fin.minor c n (k + 1) = D at *
        have hc5 := ((Keeps.step b4 b5).cell (p := ⟨b, o + k, none⟩) (World.block_lt_of_cell? wr _ hcr)).trans hcr
        go_wp2_with fail
        go_ret
        exact ⟨_, _, _, rfl, by rw [HF.out]; exact beq_eq_false_iff_ne.2 (by have := HNE.out; omega), b05⟩
    · have hkm : k = m := by omega
      have HF : Hid (res = true) := Lib.hid (HY.out (fun q h1 h2 => HK.out q h1 (by have := HM.out; omega)))
      have i1 : ¬ (k : Int) < (m : Int) := by omega
      clear hkm
      go_wp2_with fail
      go_ret
      exact ⟨some ⟨wr.heap.size, 0, none⟩, 0, 0, rfl, by rw [HF.out]; rfl, hb0.alloc hb0.size _⟩

set_option maxHeartbeats 400000 in
theorem isFiniteSpec {S : Nat → Prop} {u : Value} {c : List (List Int)} {w : World} (h : RII S w u c) (hl : total c ≤ 16777216) :
    Calls Try.prog 48 #[u] w fun e w' => e = .returned (.bool (finB c)) ∧ Below w.heap.size w w' := by
  have HF : Hid (finB c = (isC c && Fin.isFin c)) := Lib.hid rfl
  generalize finB c = res at *
  go_enter Try.func48, Try.ntmps48
  go_wp2_with fail
  refine (isCartanSpec h hl).mono ?_
  rintro e w1 ⟨rfl, hw1⟩
  have b1 := below_quiet hw1
  clear hw1
  cases hC : isC c
  · have e0 : Hid (res = false) := Lib.hid (by rw [HF.out, hC]; rfl)
    go_wp2_with fail
    go_ret
    exact ⟨ret_bool e0.out.symm, b1⟩
  · have HC := Lib.hid (isC_iff.1 hC)
    have e0 : Hid (res = Fin.isFin c) := Lib.hid (by rw [HF.out, hC]; rfl)
    clear hC
    go_wp2_with fail
    refine (witnessSpec (h.below b1) HC.out hl).mono ?_
    rintro e w2 ⟨a2, n2, c2, rfl, hq, b2⟩
    rw [← e0.out] at hq
    have hq2 := Lib.hid hq
    clear hq
    go_wp2_with fail
    go_ret
    exact ⟨ret_bool hq2.out, Keeps.step b1 b2⟩

/-- The minors of all sets up to a mask. -/
def minL (c : List (List Int)) (n : Nat) : Nat → List Int
  | 0 => []
  | k + 1 => minL c n k ++ [Fin.minor c n (k + 1)]
theorem minL_len (c : List (List Int)) (n : Nat) : ∀ k, (minL c n k).length = k
  | 0 => rfl
  | k + 1 => by simp [minL, minL_len c n k]
theorem minL_at (c : List (List Int)) (n : Nat) : ∀ (k j : Nat), j < k → (minL c n k)[j]? = some (Fin.minor c n (j + 1))
  | 0, j, h => by omega
  | k + 1, j, h => by
    simp only [minL]
    rcases Nat.lt_or_ge j k with h1 | h1
    · rw [List.getElem?_append_left (by rw [minL_len]; exact h1)]
      exact minL_at c n k j h1
    · have : j = k := by omega
      subst this
      rw [List.getElem?_append_right (by rw [minL_len]; exact Nat.le_refl _), minL_len]
      simp

set_option maxHeartbeats 1000000 in
theorem minorsImpl {S : Nat → Prop} {u : Value} {c : List (List Int)} {w : World} (h : RII S w u c) (hc : CartanP c) (hl : total c ≤ 16777216) :
    Calls Try.prog 145 #[u] w fun e w' => ∃ r, e = .returned r ∧ FI (New w w') w' r (minL c c.length (2 ^ c.length - 1)) ∧ Below w.heap.size w w' := by
  obtain ⟨a, cap, rfl⟩ := h.form
  have hn4 := hc.le
  have HC := Lib.hid hc
  have HSQ := Lib.hid hc.sq
  have hpw : 1 ≤ 2 ^ c.length := Nat.one_le_two_pow
  have hpw2 : 2 ^ c.length ≤ 16 := Nat.pow_le_pow_right (n := 2) (by omega) hn4
  clear hc
  generalize hn : c.length = n at *
  have HNN := Lib.hid hn
  clear hn
  go_enter Try.func145, Try.ntmps145
  go_wp2_with fail
  obtain ⟨w1, hw1⟩ : ∃ w1, w1 = w.alloc (.cells #[] 3) := ⟨_, rfl⟩
  obtain ⟨f1, b1⟩ := fresh_of (Below.refl _ w) hw1
  rw [← hw1]
  clear hw1
  refine (isCartanImpl (h.below b1) hl).mono ?_
  rintro e w2 ⟨rfl, hw2⟩
  rw [isC_iff.2 HC.out]
  have b2 := below_quiet hw2
  clear hw2
  have f1 := f1.grow b2
  have b1 := Keeps.step b1 b2
  clear b2
  go_wp2_with fail
  go_loopw [3, 4] (fun zz j wr => ∃ (k : Nat) (z : Value), z = zz ∧ k + 1 ≤ 2 ^ n ∧ j = .int .i64 ((k : Int) + 1) ∧ FI (New w wr) wr z (minL c n k) ∧ Below w.heap.size w wr) (fun _ j _ => 2 ^ n - (intOf j).toNat)
  case atStart => exact ⟨0, _, rfl, hpw, rfl, f1, b1⟩
  case round =>
    obtain ⟨k, z, rfl, hk, rfl, hf, hb⟩ := hrel
    have HLEN := Lib.hid (minL_len c n k)
    have HST : Hid (minL c n (k + 1) = minL c n k ++ [Fin.minor c n (k + 1)]) := Lib.hid rfl
    by_cases hlt : k + 1 < 2 ^ n
    · have i1 := (wpow_lt (by omega : n ≤ 4) (k := k)).2 hlt
      have HB : Hid (bitsI 4 (k + 1) = bitsI n (k + 1)) := Lib.hid (bits_stay (Nat.div_eq_of_lt hlt) (by omega))
      have HMI := Lib.hid (minor_sub c n (k + 1))
      have HPT := Lib.hid (bits_pts (k := k + 1) (Nat.le_refl n))
      have HBL := Lib.hid (bitsI_len n (k + 1))
      generalize minL c n k = A at *
      go_wp2_with fail
      refine (setOfImpl (k + 1) (by omega) wr).mono ?_
      rintro e w4 ⟨r4, rfl, f4, b4⟩
      rw [HB.out] at f4
      generalize bitsI n (k + 1) = l at *
      have b04 := Keeps.step hb b4
      go_wp2_with fail
      refine (pickedImpl (h.below b04) f4.reads HSQ.out HPT.out (by omega) (by have := HBL.out; omega)).mono ?_
      rintro e w5 ⟨r5, rfl, f5, b5⟩
      have b05 := Keeps.step b04 b5
      go_wp2_with fail
      refine (detImpl f5.reads (sub_sqr c l) (car_small HC.out l) (by have := HBL.out; omega)).mono ?_
      rintro e w6 ⟨rfl, b6⟩
      rw [← HMI.out]
      have b06 := Keeps.step b05 b6
      have hf6 := (hf.grow b4).grow b5 |>.grow b6
      generalize Fin.minor c n (k + 1) = D at *
      have bb : ∀ wr : World, Below wr.heap.size wr (wr.alloc (.cells #[.int .i64 D] 3)) := fun wr => (Below.refl wr.heap.size wr).alloc (Nat.le_refl _) _
      go_wp2_with (at_builtin; go_must (refine wpList_app (W := w) rfl _ _ rfl rfl (hf6.grow (bb _)) (Keeps.step b06 (bb _)) rfl (RI.one _ D) ?_ ?_))
      · have := HLEN.out; simp; omega
      · intro v' w7 f7 b7 _
        go_wp2_with fail
        go_roundw
        case rel => exact ⟨k + 1, _, rfl, hlt, by go_num, by rw [HST.out]; exact f7, b7⟩
        case measure => simp [intOf]; omega
    · have i1 : ¬ ((k : Int) + 1 < wrap64 (2 ^ n)) := fun h => hlt ((wpow_lt (by omega)).1 h)
      have HR : Hid (k = 2 ^ n - 1) := Lib.hid (by omega)
      clear hlt
      go_wp2_with fail
      go_ret
      exact ⟨_, rfl, by rw [← HR.out]; exact hf, hb⟩

set_option maxHeartbeats 1000000 in
theorem witnessImpl {S : Nat → Prop} {u : Value} {c : List (List Int)} {w : World} (h : RII S w u c) (hc : CartanP c) (hl : total c ≤ 16777216) :
    Calls Try.prog 109 #[u] w (SliceWith (fun n => ((n : Int) == 0) = Fin.isFin c) w) := by
  obtain ⟨a, cap, rfl⟩ := h.form
  have hn4 := hc.le
  have HC := Lib.hid hc
  have HN : Hid (∀ q, 1 ≤ q → q ≤ 2 ^ c.length - 1 → ¬ 0 < Fin.minor c c.length q → Fin.isFin c = false) := Lib.hid (fun q h1 h2 h3 => by
    cases e : Fin.isFin c
    · rfl
    · exact absurd (Fin.posUp_iff.1 e q h1 h2) h3)
  have HY : Hid ((∀ q, 1 ≤ q → q ≤ 2 ^ c.length - 1 → 0 < Fin.minor c c.length q) → Fin.isFin c = true) := Lib.hid (fun h => Fin.posUp_iff.2 h)
  have hpw : 1 ≤ 2 ^ c.length := Nat.one_le_two_pow
  have hpw2 : 2 ^ c.length ≤ 16 := Nat.pow_le_pow_right (n := 2) (by omega) hn4
  generalize Fin.isFin c = res at *
  clear hc
  go_enter Try.func109, Try.ntmps109
  go_wp2_with fail
  refine (minorsImpl h HC.out hl).mono ?_
  rintro e w2 ⟨r2, rfl, f2, b2⟩
  generalize hn : c.length = n at *
  have HNN := Lib.hid hn
  clear hn
  have HL := Lib.hid (minL_len c n (2 ^ n - 1))
  have HAT := Lib.hid (minL_at c n (2 ^ n - 1))
  generalize hm : 2 ^ n - 1 = m at *
  have HM := Lib.hid hm
  have hm15 : m ≤ 15 := by omega
  clear hm
  have h2 := f2.reads
  obtain ⟨a2, c2, rfl⟩ := h2.form
  rw [HL.out] at h2 ⊢
  clear f2
  go_wp2_with fail
  go_loopw [8] (fun j wr => ∃ (k : Nat), k ≤ m ∧ j = .int .i64 k ∧ Hid (∀ q, 1 ≤ q → q ≤ k → 0 < Fin.minor c n q) ∧ w2 = wr) (fun j _ => m - (intOf j).toNat)
  case atStart => exact ⟨0, Nat.zero_le _, rfl, Lib.hid (fun q h1 h2 => by omega), rfl⟩
  case round =>
    obtain ⟨k, hk, rfl, HK, rfl⟩ := hrel
    by_cases hlt : k < m
    · obtain ⟨b, o, D, rfl, hcD, hD⟩ := h2.at hlt
      have HD : Hid (D = Fin.minor c n (k + 1)) := Lib.hid (by have := hD.out; rw [HAT.out k hlt] at this; exact (Option.some.inj this).symm)
      have hkn : k + 1 < 2 ^ n := by have := HM.out; omega
      have HNE : Hid (1 ≤ (bitsI 4 (k + 1)).length) := Lib.hid (bitsI_ne (by omega) (by omega) (by omega))
      have i1 : (k : Int) < (m : Int) := by omega
      by_cases hpos : 0 < D
      · have HK2 : Hid (∀ q, 1 ≤ q → q ≤ k + 1 → 0 < Fin.minor c n q) := Lib.hid (fun q h1 h2 => by
          rcases Nat.lt_or_ge k q with h3 | h3
          · have : q = k + 1 := by omega
            subst this; rw [← HD.out]; exact hpos
          · exact HK.out q h1 h3)
        have i5 : ¬ D ≤ 0 := by omega
        clear hpos hkn
        go_wp2_with fail
        go_roundw
        case rel => exact ⟨k + 1, by omega, by go_num, HK2, by trivial⟩
        case measure => simp [intOf]; omega
      · have HF := Lib.hid (HN.out (k + 1) (by omega) (by have := HM.out; omega) (by have := HD.out; omega))
        have i5 : D ≤ 0 := by omega
        clear hpos hkn
        go_wp2_with fail
        refine (setOfImpl (k + 1) (by omega) w2).mono ?_
        rintro e w4 ⟨r4, rfl, f4, b4⟩
        obtain ⟨a4, c4, rfl⟩ := f4.form
        go_wp2_with fail
        go_ret
        exact ⟨_, _, _, rfl, by rw [HF.out]; exact beq_eq_false_iff_ne.2 (by have := HNE.out; omega), Keeps.step b2 b4⟩
    · have hkm : k = m := by omega
      have HF : Hid (res = true) := Lib.hid (HY.out (fun q h1 h2 => HK.out q h1 (by have := HM.out; omega)))
      have i1 : ¬ (k : Int) < (m : Int) := by omega
      clear hkm
      go_wp2_with fail
      go_ret
      exact ⟨some ⟨w2.heap.size, 0, none⟩, 0, 0, rfl, by rw [HF.out]; rfl, b2.alloc b2.size _⟩

set_option maxHeartbeats 400000 in
theorem isFiniteImpl {S : Nat → Prop} {u : Value} {c : List (List Int)} {w : World} (h : RII S w u c) (hl : total c ≤ 16777216) :
    Calls Try.prog 52 #[u] w fun e w' => e = .returned (.bool (finB c)) ∧ Below w.heap.size w w' := by
  have HF : Hid (finB c = (isC c && Fin.isFin c)) := Lib.hid rfl
  generalize finB c = res at *
  go_enter Try.func52, Try.ntmps52
  go_wp2_with fail
  refine (isCartanImpl h hl).mono ?_
  rintro e w1 ⟨rfl, hw1⟩
  have b1 := below_quiet hw1
  clear hw1
  cases hC : isC c
  · have e0 : Hid (res = false) := Lib.hid (by rw [HF.out, hC]; rfl)
    go_wp2_with fail
    go_ret
    exact ⟨ret_bool e0.out.symm, b1⟩
  · have HC := Lib.hid (isC_iff.1 hC)
    have e0 : Hid (res = Fin.isFin c) := Lib.hid (by rw [HF.out, hC]; rfl)
    clear hC
    go_wp2_with fail
    refine (witnessImpl (h.below b1) HC.out hl).mono ?_
    rintro e w2 ⟨a2, n2, c2, rfl, hq, b2⟩
    rw [← e0.out] at hq
    have hq2 := Lib.hid hq
    clear hq
    go_wp2_with fail
    go_ret
    exact ⟨ret_bool hq2.out, Keeps.step b1 b2⟩
end Go.Proofs.Yteglcjembimegaa
