/- The laws' own helper that looks for consecutive numbers in a list of lists. Condition: sizes up to 2^24. -/
import Derived.Test.YtipjomdldjbenaaGreatDoorRGOp
namespace Go.Proofs.YtipjomdldjbenaaGreatDoor
open Go.RowKit
set_option maxRecDepth 20000
set_option maxHeartbeats 400000 in
theorem heldIntSS_any {S : Nat → Prop} {v : Value} {L : List (List Int)} {w : World} (k : Nat) (h : RII S w v (marksS k L)) (hl : total L + k ≤ 16777216) :
  Calls Tryz.prog 31 #[v, .int .i64 k] w fun e w' => e = .returned (.int .i64 ((k + (L.map List.length).sum : Nat) : Int)) ∧ ∃ m, w' = w.drewN m := by
 obtain ⟨a, cap, rfl⟩ := h.form
 rw [marksS_length] at *
 have hn0 : L.length ≤ 16777216 := by unfold total at hl; omega
 generalize hn : L.length = n at *
 have H := Lib.hid hn
 clear hn
 go_enter Tryz.func31, Tryz.ntmps31
 go_wp2_with fail
 go_loopw [1, 5] (fun q i wr => ∃ j m : Nat, j ≤ n ∧ i = .int .i64 j ∧ q = .int .i64 ((k + ((L.take j).map List.length).sum : Nat) : Int) ∧ wr = w.drewN m) (fun _ i _ => n - (intOf i).toNat)
 case atStart => exact ⟨0, 0, Nat.zero_le _, rfl, by simp, rfl⟩
 case round =>
  obtain ⟨j, m, hj, rfl, rfl, hw⟩ := hrel
  have h : RII S wr (.slice a n cap) (marksS k L) := by rw [hw]; exact h.drewN m
  have HW := Lib.hid hw
  clear hw
  by_cases hlt : j < n
  ·obtain ⟨b, o, r, l', rfl, hc, hr, hx'⟩ := h.at hlt
   obtain ⟨l, hx⟩ : ∃ l, L[j]? = some l := ⟨_, List.getElem?_eq_getElem (by have := H.out; omega)⟩
   have e1 : l' = marks (k + ((L.take j).map List.length).sum) l.length := by
    have := hx'.out
    rw [marksS_at L k j l hx] at this
    simpa using this.symm
   subst e1
   have hsum := sum_take (f := List.length) hx
   have hle := sum_take_le (f := List.length) L (j + 1)
   have hb1 : l.length + (k + ((L.take j).map List.length).sum) ≤ 16777216 := by unfold total at hl; omega
   have hsumH := Lib.hid hsum
   clear hsum hle hx
   generalize hq : k + ((L.take j).map List.length).sum = q at *
   have HQ := Lib.hid hq
   clear hq
   go_wp2_with fail
   refine (heldIntS_any q l.length hr hb1).mono ?_
   rintro e w2 ⟨rfl, m2, hw2⟩
   have HW2 := Lib.hid hw2
   clear hw2
   have g0 : 0 ≤ ((q + l.length : Nat) : Int) := by omega
   generalize hz : ((q + l.length : Nat) : Int) = z at *
   have HZ := Lib.hid hz
   clear hz
   go_wp2_with fail
   go_roundw
   case rel =>
    refine ⟨j + 1, m + m2, by omega, by go_num, ?_, by rw [HW2.out, HW.out]; simp⟩
    rw [hsumH.out, ← HZ.out]
    have := HQ.out
    go_num
   case measure => simp [intOf]; omega
  ·have hjn : j = n := by omega
   subst hjn
   have e := H.out
   go_wp2_with fail
   go_ret
   rw [List.take_of_length_le (by omega)]
   exact ⟨rfl, m, HW.out⟩
theorem heldIntSS_f {S : Nat → Prop} {v : Value} {L : List (List Int)} {w : World} {k : Nat} (h : FII S w v (marksS k L)) (hl : total L + k ≤ 16777216) :
  Calls Tryz.prog 31 #[v, .int .i64 k] w fun e w' => e = .returned (.int .i64 ((k + (L.map List.length).sum : Nat) : Int)) ∧ ∃ m, w' = w.drewN m :=
 heldIntSS_any k h.any hl
theorem marked_leII (L : List (List Int)) : (L.map List.length).sum ≤ total L := by unfold total; omega
end Go.Proofs.YtipjomdldjbenaaGreatDoor
