/- The laws' own helpers over lists of arrows. Condition: sizes up to 2^24. -/
import Derived.Test.YtipjomdldjbenaaGreatDoorKGBase
import Derived.Test.YtipjomdldjbenaaGreatDoorKGWgP
import Derived.Test.YtipjomdldjbenaaGreatDoorKGOp
import Derived.StillTailTactics
namespace Go.Proofs.YtipjomdldjbenaaGreatDoor
open Go.RowKit
set_option maxRecDepth 20000

def totalA (L : List Arw) : Nat := 3 * L.length
def marksLenA (L : List Arw) : Nat := 3 * L.length
theorem marked_leA (L : List Arw) : marksLenA L ≤ totalA L := Nat.le_refl _

set_option maxHeartbeats 1000000 in
theorem eqArrow_same {x y z : Int} {w : World} :
    Calls Tryz.prog 77 #[.agg #[.int .i64 x, .int .i64 y, .int .i64 z], .agg #[.int .i64 x, .int .i64 y, .int .i64 z]] w fun e w' => e = .returned (.bool true) ∧ Below w.heap.size w w' := by
  go_enter Tryz.func77, Tryz.ntmps77
  go_wp2_with fail
  go_ret
  exact ⟨rfl, ((Below.refl _ w).alloc (Nat.le_refl _) _).alloc (by simp) _⟩

set_option maxHeartbeats 1000000 in
theorem eqArrowS_same {S S' : Nat → Prop} {u v : Value} {L : List Arw} {w : World} (h : RA S w u L) (h' : RA S' w v L) (hl : totalA L ≤ 16777216) :
    Calls Tryz.prog 36 #[u, v] w fun e w' => e = .returned (.bool true) ∧ Below w.heap.size w w' := by
  obtain ⟨a, cap, rfl⟩ := F3.form h
  obtain ⟨a', cap', rfl⟩ := F3.form h'
  have hn0 : L.length ≤ 16777216 := by unfold totalA at hl; omega
  unfold RA FA at h h'
  generalize L.length = n at *
  generalize flatA L = xs at *
  clear hl
  go_enter Tryz.func36, Tryz.ntmps36
  go_wp2_with fail
  go_loopw [5] (fun i wr => ∃ k : Nat, k ≤ n ∧ i = .int .i64 k ∧ Below w.heap.size w wr) (fun i _ => n - (intOf i).toNat)
  case atStart => exact ⟨0, Nat.zero_le _, rfl, Below.refl _ _⟩
  case round =>
    obtain ⟨k, hk, rfl, hb⟩ := hrel
    by_cases hlt : k < n
    · obtain ⟨g, x, y, z, rfl, hc, hd, he, hx⟩ := F3.at (h.below hb) hlt
      obtain ⟨g', x', y', z', rfl, hc', hd', he', hx'⟩ := F3.at (h'.below hb) hlt
      have e1 : x' = x := by have := hx.out.1.symm.trans hx'.out.1; simpa using this.symm
      have e2 : y' = y := by have := hx.out.2.1.symm.trans hx'.out.2.1; simpa using this.symm
      have e3 : z' = z := by have := hx.out.2.2.symm.trans hx'.out.2.2; simpa using this.symm
      subst e1 e2 e3
      clear hx hx'
      have b1 : (k : Int) < (n : Int) := by omega
      go_wp2_with fail
      go_still_tail 8, (by kernel_rfl)
      change wpList _ _ _ _ _ wr.drew
      go_wp2_with fail
      refine eqArrow_same.mono ?_
      rintro e w2 ⟨rfl, b2⟩
      have hb2 : Below w.heap.size w w2 := Keeps.step hb.drew b2
      go_wp2_with fail
      go_roundw
      case rel => exact ⟨k + 1, by omega, by go_num, hb2⟩
      case measure => simp [intOf]; omega
    · go_wp2_with fail
      go_ret
      exact ⟨rfl, hb⟩

theorem marks_set3 {l : List Int} {k i : Nat} (h : i < l.length) : ((marks k i) ++ l.drop i).set i ((k + i : Nat) : Int) = (marks k (i + 1)) ++ l.drop (i + 1) := by
  rw [List.set_append_right _ _ (by simp [marks]), marks_length, Nat.sub_self, List.drop_eq_getElem_cons h, List.set_cons_zero]
  unfold marks
  rw [List.range_succ, List.map_append, List.append_assoc]; rfl
theorem F3.mark {S : Nat → Prop} {w : World} {g cap n k i : Nat} {xs : List Int} (h : F3 S w (.slice (some ⟨g, 0, none⟩) n cap) n (marks k i ++ xs.drop i)) (hi : i < xs.length) {x : Int} (hx : x = ((k + i : Nat) : Int)) :
    F3 S (w.setCell ⟨g, i, none⟩ (.int .i64 x)) (.slice (some ⟨g, 0, none⟩) n cap) n (marks k (i + 1) ++ xs.drop (i + 1)) := by
  subst hx
  have := h.put i ((k + i : Nat) : Int)
  rwa [marks_set3 hi] at this

set_option maxHeartbeats 2000000 in
theorem markF3 {S : Nat → Prop} {v : Value} {n : Nat} {xs : List Int} {w : World} (h : F3 S w v n xs) (k : Nat) (hl : 3 * n + k ≤ 16777216) :
    Calls Tryz.prog 37 #[v, .int .i64 k] w fun e w' => e = .returned (.int .i64 ((k + 3 * n : Nat) : Int)) ∧ F3 S w' v n (marks k (3 * n)) ∧ Only S w w' := by
  obtain ⟨a, cap, rfl⟩ := h.form
  have hxl := h.len
  have HXL := Lib.hid hxl
  clear hxl
  go_enter Tryz.func37, Tryz.ntmps37
  go_wp2_with fail
  go_loopw [1, 5] (fun q i wr => ∃ j : Nat, j ≤ n ∧ i = .int .i64 j ∧ q = .int .i64 ((k + j * 3 : Nat) : Int) ∧ F3 S wr (.slice a n cap) n (marks k (j * 3) ++ xs.drop (j * 3)) ∧ Only S w wr) (fun _ i _ => n - (intOf i).toNat)
  case atStart => exact ⟨0, Nat.zero_le _, rfl, rfl, by simpa [marks] using h, Only.refl _ _⟩
  case round =>
    clear h
    obtain ⟨j, hj, rfl, rfl, hf, ho⟩ := hrel
    by_cases hlt : j < n
    · obtain ⟨g, rfl, hSg⟩ := hf.head (by omega)
      obtain ⟨g', x, y, z, eg, hc, hd, he, _⟩ := hf.at hlt
      simp only [Option.some.injEq, Addr.mk.injEq, and_true] at eg
      subst eg
      have h0 : j * 3 < xs.length := by have := HXL.out; omega
      have h1 : j * 3 + 1 < xs.length := by have := HXL.out; omega
      have h2 : j * 3 + 2 < xs.length := by have := HXL.out; omega
      have f1 := hf.mark h0 (x := (k : Int) + (j : Int) * 3) (by omega)
      have f2 := f1.mark h1 (x := (k : Int) + (j : Int) * 3 + 1) (by omega)
      have f3 := f2.mark h2 (x := (k : Int) + (j : Int) * 3 + 1 + 1) (by omega)
      have o3 := Only.setCell (j := j * 3 + 2) (Only.setCell (j := j * 3 + 1) (Only.setCell (j := j * 3) ho hSg (.int .i64 ((k : Int) + (j : Int) * 3))) hSg (.int .i64 ((k : Int) + (j : Int) * 3 + 1))) hSg (.int .i64 ((k : Int) + (j : Int) * 3 + 1 + 1))
      have z0 := hf.froz (j * 3)
      have z1 := hf.froz (j * 3 + 1)
      have z2 := hf.froz (j * 3 + 2)
      have HF := Lib.hid (And.intro f3 o3)
      have b1 : (j : Int) < (n : Int) := by omega
      clear f1 f2 f3 o3 hf
      go_wp2_with fail
      go_roundw
      case rel => exact ⟨j + 1, by omega, by go_num, by go_num, by rw [show (j + 1) * 3 = j * 3 + 2 + 1 by omega]; exact HF.out.1, HF.out.2⟩
      case measure => simp [intOf]; omega
    · have hjn : j = n := by omega
      subst hjn
      go_wp2_with fail
      go_ret
      refine ⟨ret_int (by omega), ?_, ho⟩
      rw [List.drop_eq_nil_of_le (by have := HXL.out; omega), List.append_nil, Nat.mul_comm] at hf
      exact hf

theorem markArrowS_f {S : Nat → Prop} {v : Value} {L : List Arw} {w : World} (h : FA S w v L) (k : Nat) (hl : totalA L + k ≤ 16777216) :
    Calls Tryz.prog 37 #[v, .int .i64 k] w fun e w' => e = .returned (.int .i64 ((k + marksLenA L : Nat) : Int)) ∧ F3 S w' v L.length (marks k (marksLenA L)) ∧ Only S w w' := markF3 h k hl

set_option maxHeartbeats 2000000 in
theorem heldF3 {S : Nat → Prop} {v : Value} {k n : Nat} {w : World} (h : F3 S w v n (marks k (3 * n))) (hl : 3 * n + k ≤ 16777216) :
    Calls Tryz.prog 38 #[v, .int .i64 k] w fun e w' => e = .returned (.int .i64 ((k + 3 * n : Nat) : Int)) ∧ ∃ m, w' = w.drewN m := by
  obtain ⟨a, cap, rfl⟩ := h.form
  go_enter Tryz.func38, Tryz.ntmps38
  go_wp2_with fail
  go_loopw [1, 5] (fun q i wr => ∃ j : Nat, j ≤ n ∧ i = .int .i64 j ∧ q = .int .i64 ((k + j * 3 : Nat) : Int) ∧ wr = w) (fun _ i _ => n - (intOf i).toNat)
  case atStart => exact ⟨0, Nat.zero_le _, rfl, rfl, rfl⟩
  case round =>
    obtain ⟨j, hj, rfl, rfl, hw⟩ := hrel
    subst hw
    by_cases hlt : j < n
    · obtain ⟨g, x, y, z, rfl, hc, hd, he, hx⟩ := h.at hlt
      have e1 : x = ((k + j * 3 : Nat) : Int) := by have := hx.out.1; rw [marks_at (by omega)] at this; simpa using this.symm
      have e2 : y = ((k + j * 3 : Nat) : Int) + 1 := by have := hx.out.2.1; rw [marks_at (by omega)] at this; simp at this; omega
      have e3 : z = ((k + j * 3 : Nat) : Int) + 1 + 1 := by have := hx.out.2.2; rw [marks_at (by omega)] at this; simp at this; omega
      subst e1 e2 e3
      have b1 : (j : Int) < (n : Int) := by omega
      clear hx
      go_wp2_with fail
      go_roundw
      case rel => exact ⟨j + 1, by omega, by go_num, by go_num, trivial⟩
      case measure => simp [intOf]; omega
    · have hjn : j = n := by omega
      subst hjn
      go_wp2_with fail
      go_ret
      exact ⟨ret_int (by omega), 0, rfl⟩
theorem heldArrowS_f {S : Nat → Prop} {v : Value} {L : List Arw} {w : World} {k : Nat} (h : F3 S w v L.length (marks k (marksLenA L))) (hl : totalA L + k ≤ 16777216) :
    Calls Tryz.prog 38 #[v, .int .i64 k] w fun e w' => e = .returned (.int .i64 ((k + marksLenA L : Nat) : Int)) ∧ ∃ m, w' = w.drewN m := heldF3 h hl
end Go.Proofs.YtipjomdldjbenaaGreatDoor
