/- The coefficient of a word in a list of terms. Condition: sizes up to 2^24. The first list that holds a number. Condition: sizes up to 2^24. -/
import Derived.Test.YtipjomdldjbenaaGreatDoorRLawTerm
import Derived.Test.YtipjomdldjbenaaGreatDoorRGBase
import Derived.Test.YtipjomdldjbenaaGreatDoorRGCart
import Derived.Test.YtipjomdldjbenaaGreatDoorRGOp
namespace Go.Proofs.YtipjomdldjbenaaGreatDoor
open Go.RowKit
set_option maxRecDepth 20000
theorem below_empty {w : World} {e : TypeId} : Below w.heap.size w (w.alloc (.cells #[] e)) := (Below.refl _ w).alloc (Nat.le_refl _) _
theorem FI.fresh0 (w : World) : FI (New w (w.alloc (.cells #[] 3))) (w.alloc (.cells #[] 3)) (.slice (some ⟨w.heap.size, 0, none⟩) 0 0) [] := by
 have := World.ownsRow_lit (base := w.heap.size) (e := 3) (size := 1) w #[] 0 (Nat.le_refl _) (by unfold maxLen; omega) rfl
 exact FI.of_row this (Nat.le_refl _) rfl rfl
def hasI (x : Int) : List Int → Bool
 | [] => false
 | y :: ys => if y = x then true else hasI x ys
def indexFrom (x : Int) : List Int → Nat → Int
 | [], _ => -1
 | y :: ys, k => if y = x then (k : Int) else indexFrom x ys (k + 1)
def cellFrom (x : Int) : List (List Int) → Nat → Int
 | [], _ => -1
 | l :: L, k => if hasI x l then (k : Int) else cellFrom x L (k + 1)
theorem indexFrom_has (x : Int) : ∀ (l : List Int) (k : Nat), decide (0 ≤ indexFrom x l k) = hasI x l
 | [], k => by simp [indexFrom, hasI]
 | y :: ys, k => by
  unfold indexFrom hasI
  by_cases h : y = x
  ·simp [h]
  ·simp [h, indexFrom_has x ys (k + 1)]
set_option maxHeartbeats 400000 in
theorem slicesIndex {S : Nat → Prop} {v : Value} {l : List Int} {w : World} (h : RI S w v l) (q : Int) (hl : l.length ≤ 16777216) :
  Calls Tryz.prog 233 #[v, .int .i64 q] w fun e w' => e = .returned (.int .i64 (indexFrom q l 0)) ∧ w = w' := by
 obtain ⟨a, cap, rfl⟩ := h.form
 generalize hr : indexFrom q l 0 = r
 have R : Hid (indexFrom q (l.drop 0) 0 = r) := Lib.hid hr
 clear hr
 generalize hn : l.length = n at *
 have H := Lib.hid hn
 clear hn
 go_enter Tryz.func233, Tryz.ntmps233
 go_wp2_with fail
 go_loop [8] (fun i => ∃ k : Nat, k ≤ n ∧ i = .int .i64 k ∧ Hid (indexFrom q (l.drop k) k = r)) (fun i => n - (intOf i).toNat)
 case atStart => exact ⟨0, Nat.zero_le _, rfl, R⟩
 case round =>
  obtain ⟨k, hk, rfl, HR⟩ := hrel
  by_cases hlt : k < n
  ·obtain ⟨b, o, x, rfl, hc, hx⟩ := h.at hlt
   have HR2 : Hid ((if x = q then (k : Int) else indexFrom q (l.drop (k + 1)) (k + 1)) = r) := by
    have := HR.out
    rw [drop_step hx.out, indexFrom] at this
    exact Lib.hid this
   by_cases h1 : x = q
   ·subst h1
    go_wp2_with fail
    go_ret
    exact ⟨ret_int (by have := HR2.out; simpa using this), rfl⟩
   ·have h1' : (q == x) = false := by simp; omega
    have HR3 : Hid (indexFrom q (l.drop (k + 1)) (k + 1) = r) := by have := HR2.out; rw [if_neg h1] at this; exact Lib.hid this
    clear h1
    go_wp2_with fail
    go_round
    case rel => exact ⟨k + 1, by omega, by go_num, HR3⟩
    case measure => simp [intOf]; omega
  ·go_wp2_with fail
   go_ret
   refine ⟨ret_int ?_, rfl⟩
   have := HR.out
   rw [List.drop_eq_nil_of_le (by have := H.out; omega)] at this
   exact this
set_option maxHeartbeats 400000 in
theorem slicesContains {S : Nat → Prop} {v : Value} {l : List Int} {w : World} (h : RI S w v l) (q : Int) (hl : l.length ≤ 16777216) :
  Calls Tryz.prog 225 #[v, .int .i64 q] w fun e w' => e = .returned (.bool (hasI q l)) ∧ w = w' := by
 have E := Lib.hid (indexFrom_has q l 0)
 go_enter Tryz.func225, Tryz.ntmps225
 go_wp2_with fail
 refine (slicesIndex h q hl).mono ?_
 generalize indexFrom q l 0 = r at *
 rintro e w' ⟨rfl, rfl⟩
 go_wp2_with fail
 go_ret
 exact ⟨ret_bool E.out, rfl⟩
set_option maxHeartbeats 400000 in
theorem hasSpec {S : Nat → Prop} {v : Value} {l : List Int} {w : World} (h : RI S w v l) (q : Int) (hl : l.length ≤ 16777216) :
  Calls Tryz.prog 111 #[v, .int .i64 q] w fun e w' => e = .returned (.bool (hasI q l)) ∧ w = w' := by
 obtain ⟨a, cap, rfl⟩ := h.form
 generalize hr : hasI q l = r
 have R : Hid (hasI q (l.drop 0) = r) := Lib.hid hr
 clear hr
 generalize hn : l.length = n at *
 have H := Lib.hid hn
 clear hn
 go_enter Tryz.func111, Tryz.ntmps111
 go_wp2_with fail
 go_loop [5] (fun i => ∃ k : Nat, k ≤ n ∧ i = .int .i64 k ∧ Hid (hasI q (l.drop k) = r)) (fun i => n - (intOf i).toNat)
 case atStart => exact ⟨0, Nat.zero_le _, rfl, R⟩
 case round =>
  obtain ⟨k, hk, rfl, HR⟩ := hrel
  by_cases hlt : k < n
  ·obtain ⟨b, o, x, rfl, hc, hx⟩ := h.at hlt
   have HR2 : Hid ((if x = q then true else hasI q (l.drop (k + 1))) = r) := by
    have := HR.out
    rw [drop_step hx.out, hasI] at this
    exact Lib.hid this
   by_cases h1 : x = q
   ·subst h1
    go_wp2_with fail
    go_ret
    exact ⟨ret_bool (by have := HR2.out; simpa using this), rfl⟩
   ·have h1' : (x == q) = false := by simp; omega
    have HR3 : Hid (hasI q (l.drop (k + 1)) = r) := by have := HR2.out; rw [if_neg h1] at this; exact Lib.hid this
    clear h1
    go_wp2_with fail
    go_round
    case rel => exact ⟨k + 1, by omega, by go_num, HR3⟩
    case measure => simp [intOf]; omega
  ·go_wp2_with fail
   go_ret
   refine ⟨ret_bool ?_, rfl⟩
   have := HR.out
   rw [List.drop_eq_nil_of_le (by have := H.out; omega)] at this
   exact this
set_option maxHeartbeats 400000 in
theorem cellOfSpec {S : Nat → Prop} {v : Value} {L : List (List Int)} {q : Int} {w : World} (h : RII S w v L) (hl : total L ≤ 16777216) :
  Calls Tryz.prog 84 #[v, .int .i64 q] w fun e w' => e = .returned (.int .i64 (cellFrom q L 0)) ∧ w = w' := by
 obtain ⟨a, cap, rfl⟩ := h.form
 have hn0 : L.length ≤ 16777216 := by unfold total at hl; omega
 generalize hr : cellFrom q L 0 = r
 have R : Hid (cellFrom q (L.drop 0) 0 = r) := Lib.hid hr
 clear hr
 generalize hn : L.length = n at *
 have H := Lib.hid hn
 clear hn
 go_enter Tryz.func84, Tryz.ntmps84
 go_wp2_with fail
 go_loop [5] (fun i => ∃ k : Nat, k ≤ n ∧ i = .int .i64 k ∧ Hid (cellFrom q (L.drop k) k = r)) (fun i => n - (intOf i).toNat)
 case atStart => exact ⟨0, Nat.zero_le _, rfl, R⟩
 case round =>
  obtain ⟨k, hk, rfl, HR⟩ := hrel
  by_cases hlt : k < n
  ·obtain ⟨b, o, r1, l, rfl, hc, hr1, hx⟩ := h.at hlt
   have hll : l.length ≤ 16777216 := by have := row_le (List.mem_of_getElem? hx.out); omega
   have HR2 : Hid ((if hasI q l then (k : Int) else cellFrom q (L.drop (k + 1)) (k + 1)) = r) := by
    have := HR.out
    rw [drop_step hx.out, cellFrom] at this
    exact Lib.hid this
   go_wp2_with fail
   refine (hasSpec hr1 q hll).mono ?_
   rintro e w' ⟨rfl, rfl⟩
   cases hq : hasI q l
   ·go_wp2_with fail
    go_round
    case rel => exact ⟨k + 1, by omega, by go_num, by have := HR2.out; rw [hq] at this; exact Lib.hid (by simpa using this)⟩
    case measure => simp [intOf]; omega
   ·go_wp2_with fail
    go_ret
    exact ⟨ret_int (by have := HR2.out; rw [hq] at this; simpa using this), rfl⟩
  ·go_wp2_with fail
   go_ret
   refine ⟨ret_int ?_, rfl⟩
   have := HR.out
   rw [List.drop_eq_nil_of_le (by have := H.out; omega)] at this
   exact this
end Go.Proofs.YtipjomdldjbenaaGreatDoor
