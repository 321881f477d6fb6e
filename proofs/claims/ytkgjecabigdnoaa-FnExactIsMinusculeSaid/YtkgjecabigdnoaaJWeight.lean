/- Whether a list is a weight, or a word, of a matrix. Condition: sizes up to 2^24. -/
import Derived.Test.YtkgjecabigdnoaaJCartan
namespace Go.Proofs.Ytkgjecabigdnoaa
open Go.RowKit
set_option maxRecDepth 20000

def allB (p : Int → Bool) : List Int → Bool
  | [] => true
  | x :: xs => if p x then allB p xs else false
theorem allB_iff {p : Int → Bool} : ∀ {l : List Int}, allB p l = true ↔ ∀ x ∈ l, p x = true
  | [] => by simp [allB]
  | x :: xs => by
    unfold allB
    cases h : p x
    · simp [h]
    · simp [h, allB_iff (l := xs)]
def wtB (x : Int) : Bool := inR x (-1000) 1000
def isW (c : List (List Int)) (v : List Int) : Bool := isC c && decide (v.length = c.length) && allB wtB v
def ptB (c : List (List Int)) (x : Int) : Bool := inR x 0 ((c.length : Int) - 1)
def isWd (c : List (List Int)) (w : List Int) : Bool := isC c && decide (w.length ≤ 15) && allB (ptB c) w

theorem inR_yes {x a b : Int} (h : a ≤ x ∧ x ≤ b) : inR x a b = true := by unfold inR; simp; omega
theorem inR_no {x a b : Int} (h : ¬ (a ≤ x ∧ x ≤ b)) : inR x a b = false := by unfold inR; rw [Bool.and_eq_false_iff]; simp; omega

set_option maxHeartbeats 1000000 in
theorem isWeightImpl {S S' : Nat → Prop} {u v : Value} {c : List (List Int)} {l : List Int} {w : World} (h : RII S w u c) (h' : RI S' w v l) (hl : total c ≤ 16777216) (hl' : l.length ≤ 16777216) :
    Calls Try.prog 55 #[u, v] w fun e w' => e = .returned (.bool (isW c l)) ∧ ∃ m, w' = w.drewN m := by
  obtain ⟨a, cap, rfl⟩ := h.form
  obtain ⟨a', cap', rfl⟩ := h'.form
  have R0 : Hid (isW c l = (isC c && decide (l.length = c.length) && allB wtB l)) := Lib.hid rfl
  generalize isW c l = res at *
  go_enter Try.func55, Try.ntmps55
  go_wp2_with fail
  refine (isCartanImpl h hl).mono ?_
  rintro e w' ⟨rfl, m, rfl⟩
  cases hC : isC c
  · go_wp2_with fail
    go_ret
    exact ⟨ret_bool (by rw [R0.out, hC]; rfl), dr1⟩
  · by_cases hlen : l.length = c.length
    · have hne : ((l.length : Int) != (c.length : Int)) = false := by simp; omega
      have R1 : Hid (allB wtB (l.drop 0) = res) := Lib.hid (by rw [R0.out, hC]; simp [hlen])
      have h2 := h'.drewN m
      clear hlen h h' R0
      generalize hn : l.length = n at *
      have H := Lib.hid hn
      clear hn
      go_wp2_with fail
      go_loop [19] (fun i => ∃ k : Nat, k ≤ n ∧ i = .int .i64 k ∧ Hid (allB wtB (l.drop k) = res)) (fun i => n - (intOf i).toNat)
      case atStart => exact ⟨0, Nat.zero_le _, rfl, R1⟩
      case round =>
        obtain ⟨k, hk, rfl, HR⟩ := hrel
        by_cases hlt : k < n
        · obtain ⟨b, o, x, rfl, hc, hx⟩ := h2.at hlt
          have HR2 : Hid ((if wtB x then allB wtB (l.drop (k + 1)) else false) = res) := by
            have := HR.out
            rw [drop_step hx.out, allB] at this
            exact Lib.hid this
          by_cases h1 : x < -1000
          · have HR3 : Hid (false = res) := by have := HR2.out; rw [wtB, inR_no (by omega)] at this; exact Lib.hid (by simpa using this)
            go_wp2_with fail
            go_ret
            exact ⟨ret_bool HR3.out, dr1⟩
          · by_cases h1' : 1000 < x
            · have HR3 : Hid (false = res) := by have := HR2.out; rw [wtB, inR_no (by omega)] at this; exact Lib.hid (by simpa using this)
              go_wp2_with fail
              go_ret
              exact ⟨ret_bool HR3.out, dr1⟩
            · have HR3 : Hid (allB wtB (l.drop (k + 1)) = res) := by have := HR2.out; rw [wtB, inR_yes (by omega)] at this; exact Lib.hid (by simpa using this)
              go_wp2_with fail
              go_round
              case rel => exact ⟨k + 1, by omega, by go_num, HR3⟩
              case measure => simp [intOf]; omega
        · go_wp2_with fail
          go_ret
          refine ⟨ret_bool ?_, dr1⟩
          have := HR.out
          rw [List.drop_eq_nil_of_le (by have := H.out; omega)] at this
          exact this
    · have hne : ((l.length : Int) != (c.length : Int)) = true := by simp; omega
      have R1 : Hid (false = res) := Lib.hid (by rw [R0.out]; simp [hlen])
      clear hlen
      go_wp2_with fail
      go_ret
      exact ⟨ret_bool R1.out, dr1⟩

set_option maxHeartbeats 1000000 in
theorem isWeightSpec {S S' : Nat → Prop} {u v : Value} {c : List (List Int)} {l : List Int} {w : World} (h : RII S w u c) (h' : RI S' w v l) (hl : total c ≤ 16777216) (hl' : l.length ≤ 16777216) :
    Calls Try.prog 54 #[u, v] w fun e w' => e = .returned (.bool (isW c l)) ∧ ∃ m, w' = w.drewN m := by
  obtain ⟨a, cap, rfl⟩ := h.form
  obtain ⟨a', cap', rfl⟩ := h'.form
  have hC : isC c = isC c := rfl
  have R0 : Hid (isW c l = (isC c && decide (l.length = c.length) && allB wtB (l.drop 0))) := Lib.hid rfl
  generalize isW c l = res at *
  generalize hn : l.length = n at *
  have H := Lib.hid hn
  clear hn hC
  go_enter Try.func54, Try.ntmps54
  go_wp2_with fail
  go_loop [5] (fun i => ∃ k : Nat, k ≤ n ∧ i = .int .i64 k ∧ Hid (res = (isC c && decide (n = c.length) && allB wtB (l.drop k)))) (fun i => n - (intOf i).toNat)
  case atStart => exact ⟨0, Nat.zero_le _, rfl, R0⟩
  case round =>
    obtain ⟨k, hk, rfl, HR⟩ := hrel
    by_cases hlt : k < n
    · obtain ⟨b, o, x, rfl, hc, hx⟩ := h'.at hlt
      have HR2 : Hid (res = (isC c && decide (n = c.length) && (if inR x (-1000) 1000 then allB wtB (l.drop (k + 1)) else false))) := by
        have := HR.out
        rw [drop_step hx.out, allB] at this
        exact Lib.hid this
      go_wp2_with fail
      refine (l1In_any x (-1000) 1000 _).mono ?_
      rintro e w' ⟨rfl, rfl⟩
      cases hq : inR x (-1000) 1000
      · go_wp2_with fail
        go_ret
        exact ⟨ret_bool (by rw [HR2.out, hq]; simp), dr0⟩
      · go_wp2_with fail
        go_round
        case rel => exact ⟨k + 1, by omega, by go_num, by have := HR2.out; rw [hq] at this; exact Lib.hid (by simpa using this)⟩
        case measure => simp [intOf]; omega
    · have hR : Hid (res = (isC c && decide (n = c.length))) := by
        refine Lib.hid ?_
        rw [HR.out, List.drop_eq_nil_of_le (by have := H.out; omega)]
        simp [allB]
      go_wp2_with fail
      refine (isCartanSpec h hl).mono ?_
      rintro e w' ⟨rfl, hw⟩
      cases hC : isC c
      · go_wp2_with fail
        go_ret
        exact ⟨ret_bool (by rw [hR.out, hC]; rfl), hw⟩
      · by_cases hlen : n = c.length
        · have hne : ((n : Int) == (c.length : Int)) = true := by simp; omega
          have hR2 : Hid (true = res) := Lib.hid (by rw [hR.out, hC]; simp [hlen])
          clear hlen
          go_wp2_with fail
          go_ret
          exact ⟨ret_bool hR2.out, hw⟩
        · have hne : ((n : Int) == (c.length : Int)) = false := by simp; omega
          have hR2 : Hid (false = res) := Lib.hid (by rw [hR.out, hC]; simp [hlen])
          clear hlen
          go_wp2_with fail
          go_ret
          exact ⟨ret_bool hR2.out, hw⟩
end Go.Proofs.Ytkgjecabigdnoaa
