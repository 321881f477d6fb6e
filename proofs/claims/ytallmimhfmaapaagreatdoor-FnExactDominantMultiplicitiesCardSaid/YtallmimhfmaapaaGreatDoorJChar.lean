/- The sum of all counts of a character, and the count of a weight. Condition: sizes up to 2^24. -/
import Derived.Test.YtallmimhfmaapaaGreatDoorJGOWt
namespace Go.Proofs.YtallmimhfmaapaaGreatDoor
open Go.RowKit
set_option maxRecDepth 20000
set_option maxHeartbeats 8000000
def zAf (l : List Int) : List Wtd → Int
 | [] => 0
 | x :: xs => if eqL x.1 l then x.2 else zAf l xs
theorem zFx {S S' : Nat → Prop} {v u : Value} {L : List Wtd} {l : List Int} {w : World} (h : RW S w v L) (h' : RI S' w u l) (hl : zAG L ≤ 16777216) (hl' : l.length ≤ 16777216) :
  Calls Tryz.prog 24 #[v, u] w fun e w' => e = .returned (.int .i64 (zAf l L)) ∧ ∃ m, w' = w.drewN m := by
 obtain ⟨a, cap, rfl⟩ := h.form
 have hn0 : L.length ≤ 16777216 := by unfold zAG at hl; omega
 generalize hr : zAf l L = r
 have R : Hid (zAf l (L.drop 0) = r) := zRt hr
 clear hr
 generalize hn : L.length = n at *
 have H := zRt hn
 clear hn
 go_enter Tryz.func24, Tryz.ntmps24
 go_wp2_with fail
 go_loopw [5] (fun i wr => ∃ (k : Nat), k ≤ n ∧ i = .int .i64 k ∧ (∃ m, wr = w.drewN m) ∧ Hid (zAf l (L.drop k) = r)) (fun i _ => n - (intOf i).toNat)
 case atStart => exact ⟨0, Nat.zero_le _, rfl, dr0, R⟩
 case round =>
  obtain ⟨k, hk, rfl, ⟨m, hw⟩, HR⟩ := hrel
  subst hw
  by_cases hlt : k < n
  ·obtain ⟨b, o, r1, r2, x, rfl, hc, hc', ⟨hr1, rfl⟩, hx⟩ := h.at hlt
   obtain ⟨l1, c⟩ := x
   have hll : l1.length ≤ 16777216 := by have := zKH (zRv hx.out); simp at this; omega
   have HR2 : Hid ((if eqL l1 l then c else zAf l (L.drop (k + 1))) = r) := by
    have := HR.out
    rw [zAE hx.out, zAf] at this
    exact zRt this
   go_wp2_with fail
   refine (zCI (hr1.drewN m) (h'.drewN m) hll hl').mono ?_
   rintro e w' ⟨rfl, m2, rfl⟩
   cases hq : eqL l1 l
   ·go_wp2_with fail
    go_roundw
    case rel => exact ⟨k + 1, by omega, by go_num, (by first | exact dr1 | exact dr2 | exact dr3), by have := HR2.out; rw [hq] at this; exact zRt (by simpa using this)⟩
    case measure => simp [intOf]; omega
   ·go_wp2_with fail
    go_ret
    exact ⟨zAV (by have := HR2.out; rw [hq] at this; simpa using this), (by first | exact dr1 | exact dr2 | exact dr3)⟩
  ·go_wp2_with fail
   go_ret
   refine ⟨zAV ?_, m, rfl⟩
   have := HR.out
   rw [List.drop_eq_nil_of_le (by have := H.out; omega)] at this
   exact this
theorem zKL {S S' : Nat → Prop} {v u : Value} {L : List Wtd} {l : List Int} {w : World} (h : RW S w v L) (h' : RI S' w u l) (hl : zAG L ≤ 16777216) (hl' : l.length ≤ 16777216) :
  Calls Tryz.prog 26 #[v, u] w fun e w' => e = .returned (.int .i64 (zAf l L)) ∧ Below w.heap.size w w' := by
 obtain ⟨a, cap, rfl⟩ := h.form
 have hn0 : L.length ≤ 16777216 := by unfold zAG at hl; omega
 generalize hr : zAf l L = r
 have R : Hid (zAf l (L.drop 0) = r) := zRt hr
 clear hr
 generalize hn : L.length = n at *
 have H := zRt hn
 clear hn
 go_enter Tryz.func26, Tryz.ntmps26
 go_wp2_with fail
 go_loopw [9] (fun i wr => ∃ (k : Nat), k ≤ n ∧ i = .int .i64 k ∧ Hid (zAf l (L.drop k) = r) ∧ Below w.heap.size w wr) (fun i _ => n - (intOf i).toNat)
 case atStart => exact ⟨0, Nat.zero_le _, rfl, R, Below.refl _ _⟩
 case round =>
  obtain ⟨k, hk, rfl, HR, hb⟩ := hrel
  by_cases hlt : k < n
  ·obtain ⟨b, o, r1, r2, x, rfl, hc, hc', ⟨hr1, rfl⟩, hx⟩ := (h.below hb).at hlt
   obtain ⟨l1, c⟩ := x
   obtain ⟨a1, c1, rfl⟩ := hr1.form
   have hll : l1.length ≤ 16777216 := by have := zKH (zRv hx.out); simp at this; omega
   have HR2 : Hid ((if eqL l1 l then c else zAf l (L.drop (k + 1))) = r) := by
    have := HR.out
    rw [zAE hx.out, zAf] at this
    exact zRt this
   go_wp2_with fail
   have hb2 := hb.alloc hb.size (.cells #[.slice a1 l1.length c1, .int .i64 c] 52)
   refine (zKZ (hr1.below ((Below.refl _ wr).alloc (zRy _) _)) (h'.below hb2) hll hl').mono ?_
   rintro e w' ⟨rfl, m2, rfl⟩
   cases hq : eqL l1 l
   ·go_wp2_with fail
    go_roundw
    case rel => exact ⟨k + 1, by omega, by go_num, by have := HR2.out; rw [hq] at this; exact zRt (by simpa using this), below_drewN hb2 _⟩
    case measure => simp [intOf]; omega
   ·go_wp2_with fail
    go_ret
    exact ⟨zAV (by have := HR2.out; rw [hq] at this; simpa using this), below_drewN hb2 _⟩
  ·go_wp2_with fail
   go_ret
   refine ⟨zAV ?_, hb⟩
   have := HR.out
   rw [List.drop_eq_nil_of_le (by have := H.out; omega)] at this
   exact this
end Go.Proofs.YtallmimhfmaapaaGreatDoor
