/- Whether a list is a word of a matrix. Condition: sizes up to 2^24. -/
import Derived.Test.YtfpjojlkodglnaaJWeight
namespace Go.Proofs.Ytfpjojlkodglnaa
open Go.RowKit
set_option maxRecDepth 20000

set_option maxHeartbeats 400000 in
theorem isPoint_any {S : Nat → Prop} {u : Value} {c : List (List Int)} {w : World} (x : Int) (h : RII S w u c) :
    Calls Try.prog 48 #[u, .int .i64 x] w fun e w' => e = .returned (.bool (ptB c x)) ∧ w = w' := by
  obtain ⟨a, cap, rfl⟩ := h.form
  unfold ptB
  by_cases h1 : 0 ≤ x
  · by_cases h2 : x < c.length
    · go_enter Try.func48, Try.ntmps48
      go_wp2_with fail
      go_ret
      exact ⟨ret_bool (inR_yes (by omega)).symm, rfl⟩
    · go_enter Try.func48, Try.ntmps48
      go_wp2_with fail
      go_ret
      exact ⟨ret_bool (inR_no (by omega)).symm, rfl⟩
  · go_enter Try.func48, Try.ntmps48
    go_wp2_with fail
    go_ret
    exact ⟨ret_bool (inR_no (by omega)).symm, rfl⟩

set_option maxHeartbeats 400000 in
theorem isWordOf_any {S S' : Nat → Prop} {u v : Value} {c : List (List Int)} {l : List Int} {w : World} (h : RII S w u c) (h' : RI S' w v l) (hl' : l.length ≤ 16777216) :
    Calls Try.prog 87 #[u, v] w fun e w' => e = .returned (.bool (allB (ptB c) l)) ∧ w = w' := by
  obtain ⟨a', cap', rfl⟩ := h'.form
  generalize hr : allB (ptB c) l = res
  have R1 : Hid (allB (ptB c) (l.drop 0) = res) := Lib.hid hr
  clear hr
  generalize hn : l.length = n at *
  have H := Lib.hid hn
  clear hn
  go_enter Try.func87, Try.ntmps87
  go_wp2_with fail
  go_loop [9] (fun i => ∃ k : Nat, k ≤ n ∧ i = .int .i64 k ∧ Hid (allB (ptB c) (l.drop k) = res)) (fun i => n - (intOf i).toNat)
  case atStart => exact ⟨0, Nat.zero_le _, rfl, R1⟩
  case round =>
    obtain ⟨k, hk, rfl, HR⟩ := hrel
    by_cases hlt : k < n
    · obtain ⟨b, o, x, rfl, hc, hx⟩ := h'.at hlt
      have HR2 : Hid ((if ptB c x then allB (ptB c) (l.drop (k + 1)) else false) = res) := by
        have := HR.out
        rw [drop_step hx.out, allB] at this
        exact Lib.hid this
      go_wp2_with fail
      refine (isPoint_any x h).mono ?_
      rintro e w' ⟨rfl, rfl⟩
      cases hq : ptB c x
      · go_wp2_with fail
        go_ret
        exact ⟨ret_bool (by have := HR2.out; rw [hq] at this; simpa using this), rfl⟩
      · go_wp2_with fail
        go_round
        case rel => exact ⟨k + 1, by omega, by go_num, by have := HR2.out; rw [hq] at this; exact Lib.hid (by simpa using this)⟩
        case measure => simp [intOf]; omega
    · go_wp2_with fail
      go_ret
      refine ⟨ret_bool ?_, rfl⟩
      have := HR.out
      rw [List.drop_eq_nil_of_le (by have := H.out; omega)] at this
      exact this

set_option maxHeartbeats 400000 in
theorem isWordImpl {S S' : Nat → Prop} {u v : Value} {c : List (List Int)} {l : List Int} {w : World} (h : RII S w u c) (h' : RI S' w v l) (hl : total c ≤ 16777216) (hl' : l.length ≤ 16777216) :
    Calls Try.prog 75 #[u, v] w fun e w' => e = .returned (.bool (isWd c l)) ∧ ∃ m, w' = w.drewN m := by
  obtain ⟨a', cap', rfl⟩ := h'.form
  have R0 : Hid (isWd c l = (isC c && decide (l.length ≤ 15) && allB (ptB c) l)) := Lib.hid rfl
  generalize isWd c l = res at *
  go_enter Try.func75, Try.ntmps75
  go_wp2_with fail
  refine (isCartanImpl h hl).mono ?_
  rintro e w' ⟨rfl, m, rfl⟩
  cases hC : isC c
  · go_wp2_with fail
    go_ret
    exact ⟨ret_bool (by rw [R0.out, hC]; rfl), dr1⟩
  · by_cases hlen : l.length ≤ 15
    · have R1 : Hid (allB (ptB c) l = res) := Lib.hid (by rw [R0.out, hC]; simp [hlen])
      go_wp2_with fail
      refine (isWordOf_any (h.drewN m) (h'.drewN m) hl').mono ?_
      rw [R1.out]
      rintro e w' ⟨rfl, rfl⟩
      go_wp2_with fail
      go_ret
      exact ⟨rfl, dr1⟩
    · have R1 : Hid (false = res) := Lib.hid (by rw [R0.out, hC]; simp [hlen])
      go_wp2_with fail
      go_ret
      exact ⟨ret_bool R1.out, dr1⟩

set_option maxHeartbeats 1000000 in
theorem isWordSpec {S S' : Nat → Prop} {u v : Value} {c : List (List Int)} {l : List Int} {w : World} (h : RII S w u c) (h' : RI S' w v l) (hl : total c ≤ 16777216) (hl' : l.length ≤ 16777216) :
    Calls Try.prog 86 #[u, v] w fun e w' => e = .returned (.bool (isWd c l)) ∧ ∃ m, w' = w.drewN m := by
  obtain ⟨a, cap, rfl⟩ := h.form
  obtain ⟨a', cap', rfl⟩ := h'.form
  have hcl : c.length ≤ 16777216 := by unfold total at hl; omega
  have R0 : Hid (isWd c l = (isC c && decide (l.length ≤ 15) && allB (ptB c) (l.drop 0))) := Lib.hid rfl
  generalize isWd c l = res at *
  generalize hn : l.length = n at *
  have H := Lib.hid hn
  clear hn
  go_enter Try.func86, Try.ntmps86
  go_wp2_with fail
  go_loop [5] (fun i => ∃ k : Nat, k ≤ n ∧ i = .int .i64 k ∧ Hid (res = (isC c && decide (n ≤ 15) && allB (ptB c) (l.drop k)))) (fun i => n - (intOf i).toNat)
  case atStart => exact ⟨0, Nat.zero_le _, rfl, R0⟩
  case round =>
    obtain ⟨k, hk, rfl, HR⟩ := hrel
    by_cases hlt : k < n
    · obtain ⟨b, o, x, rfl, hc, hx⟩ := h'.at hlt
      have HR2 : Hid (res = (isC c && decide (n ≤ 15) && (if inR x 0 ((c.length : Int) - 1) then allB (ptB c) (l.drop (k + 1)) else false))) := by
        have := HR.out
        rw [drop_step hx.out, allB] at this
        exact Lib.hid this
      go_wp2_with fail
      refine (l1In_any x 0 ((c.length : Int) - 1) _).mono ?_
      rintro e w' ⟨rfl, rfl⟩
      cases hq : inR x 0 ((c.length : Int) - 1)
      · go_wp2_with fail
        go_ret
        exact ⟨ret_bool (by rw [HR2.out, hq]; simp), dr0⟩
      · go_wp2_with fail
        go_round
        case rel => exact ⟨k + 1, by omega, by go_num, by have := HR2.out; rw [hq] at this; exact Lib.hid (by simpa using this)⟩
        case measure => simp [intOf]; omega
    · have hR : Hid (res = (isC c && decide (n ≤ 15))) := by
        refine Lib.hid ?_
        rw [HR.out, List.drop_eq_nil_of_le (by have := H.out; omega)]
        simp [allB]
      go_wp2_with fail
      refine (isCartanSpec h hl).mono ?_
      rintro e w' ⟨rfl, hw⟩
      cases hC : isC c
      · go_wp2_with fail
        go_ret
        exact ⟨ret_bool (by rw [hR.out, hC]; rfl), hw⟩
      · by_cases hlen : n ≤ 15
        · have hR2 : Hid (true = res) := Lib.hid (by rw [hR.out, hC]; simp [hlen])
          go_wp2_with fail
          go_ret
          exact ⟨ret_bool (by rw [← hR2.out]; simp; omega), hw⟩
        · have hR2 : Hid (false = res) := Lib.hid (by rw [hR.out, hC]; simp [hlen])
          go_wp2_with fail
          go_ret
          exact ⟨ret_bool (by rw [← hR2.out]; simp; omega), hw⟩
end Go.Proofs.Ytfpjojlkodglnaa
