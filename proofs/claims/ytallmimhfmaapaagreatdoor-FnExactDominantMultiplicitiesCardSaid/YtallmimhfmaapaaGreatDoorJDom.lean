/- The first negative number of a list, and whether there is none. Condition: at most 2^24 numbers. -/
import Derived.Test.YtallmimhfmaapaaGreatDoorJGBase
namespace Go.Proofs.YtallmimhfmaapaaGreatDoor
open Go.RowKit
set_option maxRecDepth 20000
set_option maxHeartbeats 8000000
def zA0 : List Int → Nat → Int
 | [], _ => -1
 | x :: xs, k => if x < 0 then (k : Int) else zA0 xs (k + 1)
def zGN (l : List Int) : Int := zA0 l 0
def dom : List Int → Bool
 | [] => true
 | x :: xs => if x < 0 then false else dom xs
theorem zDk : ∀ (l : List Int) (k : Nat), decide (zA0 l k < 0) = dom l
 | [], k => by simp [zA0, dom]
 | x :: xs, k => by
  unfold zA0 dom
  by_cases h : x < 0
  ·simp [h]
  ·simp [h, zDk xs (k + 1)]
theorem zGM {S : Nat → Prop} {v : Value} {l : List Int} {w : World} (h : RI S w v l) (hl : l.length ≤ 16777216) :
  Calls Tryz.prog 110 #[v] w fun e w' => e = .returned (.int .i64 (zGN l)) ∧ w = w' := by
 obtain ⟨a, cap, rfl⟩ := h.form
 generalize hr : zGN l = r
 have R : Hid (zA0 (l.drop 0) 0 = r) := zRt hr
 clear hr
 generalize hn : l.length = n at *
 have H := zRt hn
 clear hn
 go_enter Tryz.func110, Tryz.ntmps110
 go_wp2_with fail
 go_loop [7] (fun i => ∃ k : Nat, k ≤ n ∧ i = .int .i64 k ∧ Hid (zA0 (l.drop k) k = r)) (fun i => n - (intOf i).toNat)
 case atStart => exact ⟨0, Nat.zero_le _, rfl, R⟩
 case round =>
  obtain ⟨k, hk, rfl, HR⟩ := hrel
  by_cases hlt : k < n
  ·obtain ⟨b, o, x, rfl, hc, hx⟩ := h.at hlt
   have HR2 : Hid ((if x < 0 then (k : Int) else zA0 (l.drop (k + 1)) (k + 1)) = r) := by
    have := HR.out
    rw [zAE hx.out, zA0] at this
    exact zRt this
   by_cases h1 : x < 0
   ·go_wp2_with fail
    go_ret
    exact ⟨zAV (by have := HR2.out; rw [if_pos (by omega)] at this; exact this), rfl⟩
   ·go_wp2_with fail
    go_round
    case rel => exact ⟨k + 1, by omega, by go_num, by have := HR2.out; rw [if_neg (by omega)] at this; exact zRt this⟩
    case measure => simp [intOf]; omega
  ·go_wp2_with fail
   go_ret
   refine ⟨zAV ?_, rfl⟩
   have := HR.out
   rw [List.drop_eq_nil_of_le (by have := H.out; omega)] at this
   exact this
theorem zEK {S : Nat → Prop} {v : Value} {l : List Int} {w : World} (h : RI S w v l) (hl : l.length ≤ 16777216) :
  Calls Tryz.prog 72 #[v] w fun e w' => e = .returned (.bool (dom l)) ∧ w = w' := by
 have E := zRt (zDk l 0)
 go_enter Tryz.func72, Tryz.ntmps72
 go_wp2_with fail
 refine (zGM h hl).mono ?_
 unfold zGN
 generalize zA0 l 0 = r at *
 rintro e w' ⟨rfl, rfl⟩
 go_wp2_with fail
 go_ret
 exact ⟨zAC E.out, rfl⟩
theorem zHT {S : Nat → Prop} {v : Value} {l : List Int} {w : World} (h : RI S w v l) (hl : l.length ≤ 16777216) :
  Calls Tryz.prog 59 #[v] w fun e w' => e = .returned (.bool (dom l)) ∧ w = w' := by
 obtain ⟨a, cap, rfl⟩ := h.form
 generalize hr : dom l = r
 have R : Hid (dom (l.drop 0) = r) := zRt hr
 clear hr
 generalize hn : l.length = n at *
 have H := zRt hn
 clear hn
 go_enter Tryz.func59, Tryz.ntmps59
 go_wp2_with fail
 go_loop [3] (fun i => ∃ k : Nat, k ≤ n ∧ i = .int .i64 k ∧ Hid (dom (l.drop k) = r)) (fun i => n - (intOf i).toNat)
 case atStart => exact ⟨0, Nat.zero_le _, rfl, R⟩
 case round =>
  obtain ⟨k, hk, rfl, HR⟩ := hrel
  by_cases hlt : k < n
  ·obtain ⟨b, o, x, rfl, hc, hx⟩ := h.at hlt
   have HR2 : Hid ((if x < 0 then false else dom (l.drop (k + 1))) = r) := by
    have := HR.out
    rw [zAE hx.out, dom] at this
    exact zRt this
   by_cases h1 : x < 0
   ·go_wp2_with fail
    go_ret
    exact ⟨zAC (by have := HR2.out; rw [if_pos (by omega)] at this; exact this), rfl⟩
   ·go_wp2_with fail
    go_round
    case rel => exact ⟨k + 1, by omega, by go_num, by have := HR2.out; rw [if_neg (by omega)] at this; exact zRt this⟩
    case measure => simp [intOf]; omega
  ·go_wp2_with fail
   go_ret
   refine ⟨zAC ?_, rfl⟩
   have := HR.out
   rw [List.drop_eq_nil_of_le (by have := H.out; omega)] at this
   exact this
end Go.Proofs.YtallmimhfmaapaaGreatDoor
