/- The pairing of two lists of numbers, as the program and as the reference reckon it. Condition: at most 2^24 numbers. -/
import Derived.Test.YtkgjecabigdnoaaJGBase
namespace Go.Proofs.Ytkgjecabigdnoaa
open Go.RowKit
set_option maxRecDepth 20000

def pairSum : List Int → List Int → Int → Int
  | x :: xs, y :: ys, s => pairSum xs ys (wrap64 (s + wrap64 (x * y)))
  | [], _, s => s
  | _ :: _, [], s => s

set_option maxHeartbeats 400000 in
theorem pairingSpec {S S' : Nat → Prop} {u v : Value} {l l' : List Int} {w : World} (h : RI S w u l) (h' : RI S' w v l') (hl : l.length ≤ 16777216) (hl' : l'.length ≤ 16777216) :
    Calls Try.prog 53 #[u, v] w fun e w' => e = .returned (.int .i64 (pairSum l l' 0)) ∧ ∃ m, w' = w.drewN m := by
  obtain ⟨a, cap, rfl⟩ := h.form
  obtain ⟨a', cap', rfl⟩ := h'.form
  generalize hn : l.length = n at *
  generalize hn' : l'.length = n' at *
  have H := Lib.hid hn
  have H' := Lib.hid hn'
  clear hn hn'
  generalize hr : pairSum l l' 0 = r
  have R := Lib.hid hr
  clear hr
  go_enter Try.func53, Try.ntmps53
  go_wp2
  go_loopw [5, 6] (fun s i wr => ∃ (k m : Nat) (t : Int), k ≤ n ∧ k ≤ n' ∧ s = .int .i64 t ∧ i = .int .i64 k ∧ wr = w.drewN m ∧ Hid (pairSum (l.drop k) (l'.drop k) t = r)) (fun _ i _ => n - (intOf i).toNat)
  case atStart => exact ⟨0, 0, 0, Nat.zero_le _, Nat.zero_le _, rfl, rfl, rfl, R⟩
  case round =>
    obtain ⟨k, m, t, hk, hk', rfl, rfl, hw, HR⟩ := hrel
    subst hw
    by_cases hlt : k < n
    · by_cases hlt' : k < n'
      · obtain ⟨b, o, x, rfl, hc, hx⟩ := h.at hlt
        obtain ⟨b', o', y, rfl, hc', hy⟩ := h'.at hlt'
        have b1 : (k : Int) < (n : Int) := by omega
        have b2 : (k : Int) < (n' : Int) := by omega
        go_wp2
        go_quiet (fail)
        go_wp2
        go_roundw
        case rel =>
          refine ⟨k + 1, m + nq, wrap64 (t + wrap64 (x * y)), by omega, by omega, rfl, by go_num, by simp, Lib.hid ?_⟩
          have e := HR.out
          rw [drop_step hx.out, drop_step hy.out] at e
          exact e
        case measure => simp [intOf]; omega
      · go_wp2
        go_ret
        refine ⟨ret_int ?_, m, rfl⟩
        have e := HR.out
        rw [List.drop_eq_nil_of_le (show l'.length ≤ k by have := H'.out; omega)] at e
        rw [← e]
        cases l.drop k <;> rfl
    · go_wp2
      go_ret
      refine ⟨ret_int ?_, m, rfl⟩
      have e := HR.out
      rw [List.drop_eq_nil_of_le (show l.length ≤ k by have := H.out; omega)] at e
      rw [← e]
      rfl

set_option maxHeartbeats 400000 in
theorem pairingImpl {S S' : Nat → Prop} {u v : Value} {l l' : List Int} {w : World} (hl0 : RI S w u l) (h' : RI S' w v l') (hl : l.length ≤ 16777216) (hl' : l'.length ≤ 16777216) :
    Calls Try.prog 56 #[u, v] w fun e w' => e = .returned (.int .i64 (pairSum l l' 0)) ∧ ∃ m, w' = w.drewN m := by
  obtain ⟨a, cap, rfl⟩ := hl0.form
  obtain ⟨a', cap', rfl⟩ := h'.form
  generalize hn : l.length = n at *
  generalize hn' : l'.length = n' at *
  have H := Lib.hid hn
  have H' := Lib.hid hn'
  clear hn hn'
  generalize hr : pairSum l l' 0 = r
  have R := Lib.hid hr
  clear hr
  go_enter Try.func56, Try.ntmps56
  go_wp2
  all_goals
    go_loopw [5, 12] (fun s i wr => ∃ (k m : Nat) (t : Int), k ≤ n ∧ k ≤ n' ∧ s = .int .i64 t ∧ i = .int .i64 k ∧ wr = w.drewN m ∧ Hid (pairSum (l.drop k) (l'.drop k) t = r)) (fun _ i _ => n - (intOf i).toNat)
    case atStart => exact ⟨0, 0, 0, Nat.zero_le _, Nat.zero_le _, rfl, rfl, rfl, R⟩
    case round =>
      obtain ⟨k, m, t, hk, hk', rfl, rfl, hw, HR⟩ := hrel
      subst hw
      by_cases hlt : k < n ∧ k < n'
      · obtain ⟨hlt, hlt'⟩ := hlt
        obtain ⟨b, o, x, rfl, hc, hx⟩ := hl0.at hlt
        obtain ⟨b', o', y, rfl, hc', hy⟩ := h'.at hlt'
        have b1 : (k : Int) < (n : Int) := by omega
        have b2 : (k : Int) < (n' : Int) := by omega
        go_wp2
        go_quiet (fail)
        go_wp2
        go_roundw
        case rel =>
          refine ⟨k + 1, m + nq, wrap64 (t + wrap64 (x * y)), by omega, by omega, rfl, by go_num, by simp, Lib.hid ?_⟩
          have e := HR.out
          rw [drop_step hx.out, drop_step hy.out] at e
          exact e
        case measure => simp [intOf]; omega
      · go_wp2
        go_ret
        refine ⟨ret_int ?_, m, rfl⟩
        have e := HR.out
        rw [← e]
        by_cases hlt2 : k < n
        · rw [List.drop_eq_nil_of_le (show l'.length ≤ k by have := H'.out; omega)]
          cases l.drop k <;> rfl
        · rw [List.drop_eq_nil_of_le (show l.length ≤ k by have := H.out; omega)]
          rfl
end Go.Proofs.Ytkgjecabigdnoaa
