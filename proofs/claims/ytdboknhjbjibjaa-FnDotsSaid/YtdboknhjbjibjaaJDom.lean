/- The first negative number of a list, and whether there is none. Condition: at most 2^24 numbers. -/
import Derived.Test.YtdboknhjbjibjaaJGBase
namespace Go.Proofs.Ytdboknhjbjibjaa
open Go.RowKit
set_option maxRecDepth 20000

def firstNegFrom : List Int → Nat → Int
  | [], _ => -1
  | x :: xs, k => if x < 0 then (k : Int) else firstNegFrom xs (k + 1)
def firstNeg (l : List Int) : Int := firstNegFrom l 0
def dom : List Int → Bool
  | [] => true
  | x :: xs => if x < 0 then false else dom xs

theorem firstNegFrom_dom : ∀ (l : List Int) (k : Nat), decide (firstNegFrom l k < 0) = dom l
  | [], k => by simp [firstNegFrom, dom]
  | x :: xs, k => by
    unfold firstNegFrom dom
    by_cases h : x < 0
    · simp [h]
    · simp [h, firstNegFrom_dom xs (k + 1)]

set_option maxHeartbeats 400000 in
theorem firstDescent_any {S : Nat → Prop} {v : Value} {l : List Int} {w : World} (h : RI S w v l) (hl : l.length ≤ 16777216) :
    Calls Try.prog 37 #[v] w fun e w' => e = .returned (.int .i64 (firstNeg l)) ∧ w = w' := by
  obtain ⟨a, cap, rfl⟩ := h.form
  generalize hr : firstNeg l = r
  have R : Hid (firstNegFrom (l.drop 0) 0 = r) := Lib.hid hr
  clear hr
  generalize hn : l.length = n at *
  have H := Lib.hid hn
  clear hn
  go_enter Try.func37, Try.ntmps37
  go_wp2_with fail
  go_loop [7] (fun i => ∃ k : Nat, k ≤ n ∧ i = .int .i64 k ∧ Hid (firstNegFrom (l.drop k) k = r)) (fun i => n - (intOf i).toNat)
  case atStart => exact ⟨0, Nat.zero_le _, rfl, R⟩
  case round =>
    obtain ⟨k, hk, rfl, HR⟩ := hrel
    by_cases hlt : k < n
    · obtain ⟨b, o, x, rfl, hc, hx⟩ := h.at hlt
      have HR2 : Hid ((if x < 0 then (k : Int) else firstNegFrom (l.drop (k + 1)) (k + 1)) = r) := by
        have := HR.out
        rw [drop_step hx.out, firstNegFrom] at this
        exact Lib.hid this
      by_cases h1 : x < 0
      · go_wp2_with fail
        go_ret
        exact ⟨ret_int (by have := HR2.out; rw [if_pos (by omega)] at this; exact this), rfl⟩
      · go_wp2_with fail
        go_round
        case rel => exact ⟨k + 1, by omega, by go_num, by have := HR2.out; rw [if_neg (by omega)] at this; exact Lib.hid this⟩
        case measure => simp [intOf]; omega
    · go_wp2_with fail
      go_ret
      refine ⟨ret_int ?_, rfl⟩
      have := HR.out
      rw [List.drop_eq_nil_of_le (by have := H.out; omega)] at this
      exact this

set_option maxHeartbeats 400000 in
theorem isDominantImpl {S : Nat → Prop} {v : Value} {l : List Int} {w : World} (h : RI S w v l) (hl : l.length ≤ 16777216) :
    Calls Try.prog 15 #[v] w fun e w' => e = .returned (.bool (dom l)) ∧ w = w' := by
  have E := Lib.hid (firstNegFrom_dom l 0)
  go_enter Try.func15, Try.ntmps15
  go_wp2_with fail
  refine (firstDescent_any h hl).mono ?_
  unfold firstNeg
  generalize firstNegFrom l 0 = r at *
  rintro e w' ⟨rfl, rfl⟩
  go_wp2_with fail
  go_ret
  exact ⟨ret_bool E.out, rfl⟩

end Go.Proofs.Ytdboknhjbjibjaa
