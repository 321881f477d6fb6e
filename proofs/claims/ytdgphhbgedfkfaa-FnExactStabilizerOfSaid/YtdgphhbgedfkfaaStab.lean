/- The points whose number is 0. Condition: sizes up to 2^24. -/
import Derived.Test.YtdgphhbgedfkfaaWeight
import Derived.Test.YtdgphhbgedfkfaaDom
import Derived.Test.YtdgphhbgedfkfaaApp
namespace Go.Proofs.Ytdgphhbgedfkfaa
open Go.RowKit

def zerosFrom : List Int → Nat → List Int
  | [], _ => []
  | x :: xs, k => if x = 0 then (k : Int) :: zerosFrom xs (k + 1) else zerosFrom xs (k + 1)
def stab (c : List (List Int)) (v : List Int) : List Int := if isW c v then (if dom v then zerosFrom v 0 else []) else []
def stabOk (c : List (List Int)) (v : List Int) : Bool := if isW c v then dom v else false
theorem zerosFrom_le : ∀ (l : List Int) (k : Nat), (zerosFrom l k).length ≤ l.length
  | [], k => by simp [zerosFrom]
  | x :: xs, k => by
    have := zerosFrom_le xs (k + 1)
    unfold zerosFrom
    split <;> simp <;> omega
theorem stab_le (c : List (List Int)) (v : List Int) : (stab c v).length ≤ v.length := by
  have := zerosFrom_le v 0
  unfold stab
  split <;> try split
  all_goals simp
  exact this

theorem FI.fresh (w : World) {w1 : World} (h : w1 = w.alloc (.cells #[] 3)) : FI (New w w1) w1 (.slice (some ⟨w.heap.size, 0, none⟩) 0 0) [] := by
  subst h
  exact FI.of_row (World.ownsRow_lit (base := w.heap.size) (e := 3) (size := 1) w #[] 0 (Nat.le_refl _) (by unfold maxLen; omega) rfl) (Nat.le_refl _) rfl rfl

set_option maxHeartbeats 1000000 in
theorem stabilizerOfSpec {S S' : Nat → Prop} {u v : Value} {c : List (List Int)} {l : List Int} {w : World} (h : RII S w u c) (h' : RI S' w v l) (hl : total c ≤ 16777216) (hl' : l.length ≤ 16777216) :
    Calls Try.prog 47 #[u, v] w fun e w' => ∃ r, e = .returned (.tuple #[r, .bool (stabOk c l)]) ∧ FI (New w w') w' r (stab c l) ∧ Below w.heap.size w w' := by
  have R1 : Hid (stab c l = if isW c l then (if dom l then zerosFrom l 0 else []) else []) := Lib.hid rfl
  have R2 : Hid (stabOk c l = if isW c l then dom l else false) := Lib.hid rfl
  generalize stab c l = res at *
  generalize stabOk c l = ok at *
  go_enter Try.func47, Try.ntmps47
  go_wp2_with fail
  obtain ⟨w1, hw1⟩ : ∃ w1, w1 = w.alloc (.cells #[] 3) := ⟨_, rfl⟩
  have b1 : Below w.heap.size w w1 := by rw [hw1]; exact (Below.refl _ w).alloc (Nat.le_refl _) _
  have f1 := FI.fresh w hw1
  rw [← hw1]
  clear hw1
  refine (isWeightSpec (h.below b1) (h'.below b1) hl hl').mono ?_
  rintro e w2 ⟨rfl, hw2⟩
  have b2 := below_quiet hw2
  have b3 := Keeps.step b1 b2
  have f2 := f1.grow b2
  clear hw2 f1 b1 b2
  cases hW : isW c l
  · go_wp2_with fail
    go_ret2
    exact ⟨_, by rw [R2.out, hW]; rfl, by rw [R1.out, hW]; exact f2, b3⟩
  · go_wp2_with fail
    refine (isDominantSpec (h'.below b3) hl').mono ?_
    rintro e w' ⟨rfl, rfl⟩
    cases hD : dom l
    · go_wp2_with fail
      go_ret2
      exact ⟨_, by rw [R2.out, hW, hD]; rfl, by rw [R1.out, hW, hD]; exact f2, b3⟩
    · have R3 : Hid (zerosFrom (l.drop 0) 0 = res) := Lib.hid (by rw [R1.out, hW, hD]; simp)
      have R4 : Hid (true = ok) := Lib.hid (by rw [R2.out, hW, hD]; rfl)
      clear R1 R2
      obtain ⟨a', cap', rfl⟩ := h'.form
      have h2 := h'.below b3
      generalize hn : l.length = n at *
      have H := Lib.hid hn
      clear hn
      go_wp2_with fail
      go_loopw [6, 7] (fun q i wr => ∃ (k : Nat) (acc : List Int), k ≤ n ∧ i = .int .i64 k ∧ FI (New w wr) wr q acc ∧ acc.length ≤ k ∧ Below w.heap.size w wr ∧ Hid (acc ++ zerosFrom (l.drop k) k = res)) (fun _ i _ => n - (intOf i).toNat)
      case atStart => exact ⟨0, [], Nat.zero_le _, rfl, f2, Nat.zero_le _, b3, R3⟩
      case round =>
        obtain ⟨k, acc, hk, rfl, hf, hal, hb, HR⟩ := hrel
        by_cases hlt : k < n
        · obtain ⟨b, o, x, rfl, hc, hx⟩ := (h'.below hb).at hlt
          have HR2 : Hid (acc ++ (if x = 0 then (k : Int) :: zerosFrom (l.drop (k + 1)) (k + 1) else zerosFrom (l.drop (k + 1)) (k + 1)) = res) := by
            have := HR.out
            rw [drop_step hx.out, zerosFrom] at this
            exact Lib.hid this
          by_cases h0 : x = 0
          · have e0 : (x == 0) = true := by simp [h0]
            have HR3 : Hid ((acc ++ [(k : Int)]) ++ zerosFrom (l.drop (k + 1)) (k + 1) = res) := by have := HR2.out; rw [if_pos h0] at this; exact Lib.hid (by simpa using this)
            clear h0
            have bb := (Below.refl wr.heap.size wr).alloc (Nat.le_refl _) (.cells #[.int .i64 k] 3)
            go_wp2_with (at_builtin; go_must (refine wpList_app (W := w) rfl _ _ rfl rfl (hf.grow bb) (Keeps.step hb bb) rfl (RI.one wr k) ?_ ?_))
            · simp; omega
            · intro v' w2 f3 b4 _
              go_wp2_with fail
              go_roundw
              case rel => exact ⟨k + 1, acc ++ [(k : Int)], by omega, by go_num, f3, by simp; omega, b4, HR3⟩
              case measure => simp [intOf]; omega
          · have e0 : (x == 0) = false := by simp [h0]
            have HR3 : Hid (acc ++ zerosFrom (l.drop (k + 1)) (k + 1) = res) := by have := HR2.out; rw [if_neg h0] at this; exact Lib.hid this
            clear h0
            go_wp2_with fail
            go_roundw
            case rel => exact ⟨k + 1, acc, by omega, by go_num, hf, by omega, hb, HR3⟩
            case measure => simp [intOf]; omega
        · go_wp2_with fail
          go_ret2
          have e : acc = res := by
            have := HR.out
            rw [List.drop_eq_nil_of_le (by have := H.out; omega)] at this
            simpa [zerosFrom] using this
          subst e
          exact ⟨_, by rw [← R4.out]; rfl, hf, hb⟩
set_option maxHeartbeats 1000000 in
theorem stabilizerOfImpl {S S' : Nat → Prop} {u v : Value} {c : List (List Int)} {l : List Int} {w : World} (h : RII S w u c) (h' : RI S' w v l) (hl : total c ≤ 16777216) (hl' : l.length ≤ 16777216) :
    Calls Try.prog 48 #[u, v] w fun e w' => ∃ r, e = .returned (.tuple #[r, .bool (stabOk c l)]) ∧ FI (New w w') w' r (stab c l) ∧ Below w.heap.size w w' := by
  have R1 : Hid (stab c l = if isW c l then (if dom l then zerosFrom l 0 else []) else []) := Lib.hid rfl
  have R2 : Hid (stabOk c l = if isW c l then dom l else false) := Lib.hid rfl
  generalize stab c l = res at *
  generalize stabOk c l = ok at *
  go_enter Try.func48, Try.ntmps48
  go_wp2_with fail
  refine (isWeightImpl h h' hl hl').mono ?_
  rintro e w2 ⟨rfl, hw2⟩
  have b3 := below_quiet hw2
  clear hw2
  have f2 := (FI.fresh w2 rfl).mono (S' := New w (w2.alloc (.cells #[] 3))) (fun b hb => ⟨by have := hb.1; have := b3.size; omega, hb.2⟩)
  have b4 := b3.alloc b3.size (.cells #[] 3)
  cases hW : isW c l
  · go_wp2_with fail
    go_ret2
    exact ⟨_, by rw [R2.out, hW]; rfl, by rw [R1.out, hW]; exact f2, b4⟩
  · go_wp2_with fail
    refine (isDominantImpl (h'.below b3) hl').mono ?_
    rintro e w' ⟨rfl, rfl⟩
    cases hD : dom l
    · go_wp2_with fail
      go_ret2
      exact ⟨_, by rw [R2.out, hW, hD]; rfl, by rw [R1.out, hW, hD]; exact f2, b4⟩
    · have R3 : Hid (zerosFrom (l.drop 0) 0 = res) := Lib.hid (by rw [R1.out, hW, hD]; simp)
      have R4 : Hid (true = ok) := Lib.hid (by rw [R2.out, hW, hD]; rfl)
      clear R1 R2
      obtain ⟨a', cap', rfl⟩ := h'.form
      have h2 := h'.below b3
      generalize hn : l.length = n at *
      have H := Lib.hid hn
      clear hn
      go_wp2_with fail
      go_loopw [6, 22] (fun q i wr => ∃ (k : Nat) (acc : List Int), k ≤ n ∧ i = .int .i64 k ∧ FI (New w wr) wr q acc ∧ acc.length ≤ k ∧ Below w.heap.size w wr ∧ Hid (acc ++ zerosFrom (l.drop k) k = res)) (fun _ i _ => n - (intOf i).toNat)
      case atStart => exact ⟨0, [], Nat.zero_le _, rfl, f2, Nat.zero_le _, b4, R3⟩
      case round =>
        obtain ⟨k, acc, hk, rfl, hf, hal, hb, HR⟩ := hrel
        by_cases hlt : k < n
        · obtain ⟨b, o, x, rfl, hc, hx⟩ := (h'.below hb).at hlt
          have HR2 : Hid (acc ++ (if x = 0 then (k : Int) :: zerosFrom (l.drop (k + 1)) (k + 1) else zerosFrom (l.drop (k + 1)) (k + 1)) = res) := by
            have := HR.out
            rw [drop_step hx.out, zerosFrom] at this
            exact Lib.hid this
          by_cases h0 : x = 0
          · have e0 : (x == 0) = true := by simp [h0]
            have HR3 : Hid ((acc ++ [(k : Int)]) ++ zerosFrom (l.drop (k + 1)) (k + 1) = res) := by have := HR2.out; rw [if_pos h0] at this; exact Lib.hid (by simpa using this)
            clear h0
            have bb := (Below.refl wr.heap.size wr).alloc (Nat.le_refl _) (.cells #[.int .i64 k] 3)
            go_wp2_with (at_builtin; go_must (refine wpList_app (W := w) rfl _ _ rfl rfl (hf.grow bb) (Keeps.step hb bb) rfl (RI.one wr k) ?_ ?_))
            · simp; omega
            · intro v' w2 f3 b4 _
              go_wp2_with fail
              go_roundw
              case rel => exact ⟨k + 1, acc ++ [(k : Int)], by omega, by go_num, f3, by simp; omega, b4, HR3⟩
              case measure => simp [intOf]; omega
          · have e0 : (x == 0) = false := by simp [h0]
            have HR3 : Hid (acc ++ zerosFrom (l.drop (k + 1)) (k + 1) = res) := by have := HR2.out; rw [if_neg h0] at this; exact Lib.hid this
            clear h0
            go_wp2_with fail
            go_roundw
            case rel => exact ⟨k + 1, acc, by omega, by go_num, hf, by omega, hb, HR3⟩
            case measure => simp [intOf]; omega
        · go_wp2_with fail
          go_ret2
          have e : acc = res := by
            have := HR.out
            rw [List.drop_eq_nil_of_le (by have := H.out; omega)] at this
            simpa [zerosFrom] using this
          subst e
          exact ⟨_, by rw [← R4.out]; rfl, hf, hb⟩
end Go.Proofs.Ytdgphhbgedfkfaa
