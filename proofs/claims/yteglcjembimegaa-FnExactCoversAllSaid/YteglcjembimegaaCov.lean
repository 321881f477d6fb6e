/- Whether the product of a word's letters is the longest element: both sides. Condition: sizes up to 2^24. -/
import Derived.Test.YteglcjembimegaaStarS
namespace Go.Proofs.Yteglcjembimegaa
open Go.RowKit
set_option maxRecDepth 20000

def covB (c : List (List Int)) (l : List Int) : Bool := isWd c l && (finB c && eqL (starW c [] l) (longL c))
theorem starW_len {c : List (List Int)} (hc : CartanP c) : ∀ (l : List Int) {x : List Int}, Lets c.length l → Lets c.length x → x.length + l.length ≤ 28 → (starW c x l).length ≤ x.length + l.length
  | [], x, _, _, _ => by simp [starW]
  | i :: l, x, hl, hx, hn => by
    obtain ⟨h0, h1⟩ := hl i (by simp)
    obtain ⟨k, rfl⟩ : ∃ k : Nat, i = (k : Int) := ⟨i.toNat, by omega⟩
    have h2 := starL_ok hc hx (by omega : k < c.length) (by simp at hn; omega)
    have := starW_len hc l (x := starL c x k) (fun y hy => hl y (by simp [hy])) h2.1 (by simp at hn; have := h2.2; omega)
    show (starW c (starL c x k) l).length ≤ _
    simp at hn ⊢
    have := h2.2
    omega

set_option maxHeartbeats 1000000 in
theorem coversAllImpl {S S' : Nat → Prop} {u v : Value} {c : List (List Int)} {l : List Int} {w : World} (h : RII S w u c) (h' : RI S' w v l) (hl : total c ≤ 16777216) (hl' : l.length ≤ 16777216) :
    Calls Try.prog 37 #[u, v] w fun e w' => e = .returned (.bool (covB c l)) ∧ Below w.heap.size w w' := by
  have HD : Hid (covB c l = (isWd c l && (finB c && eqL (starW c [] l) (longL c)))) := Lib.hid rfl
  have HP : Hid (finB c = true → FinP c) := Lib.hid finB_p
  have HWL : Hid (isWd c l = true → (starW c [] l).length ≤ 15) := Lib.hid (fun h => by
    obtain ⟨h1, h2, h3⟩ := isWd_parts h
    have := starW_len (isC_iff.1 h1) l (x := []) h3 (fun y hy => by simp at hy) (by simp; omega)
    simp at this; omega)
  generalize covB c l = res at *
  go_enter Try.func37, Try.ntmps37
  go_wp2_with fail
  refine (starWordImpl h h' hl hl').mono ?_
  rintro e w1 ⟨r1, rfl, f1, b1⟩
  cases hW : isWd c l
  · have e0 : Hid (res = false) := Lib.hid (by rw [HD.out, hW]; rfl)
    go_wp2_with fail
    go_ret
    exact ⟨ret_bool e0.out.symm, b1⟩
  · have HW2 := Lib.hid hW
    have HL15 := Lib.hid (HWL.out hW)
    rw [hW, if_pos rfl] at f1
    clear hW
    go_wp2_with fail
    refine (isFiniteImpl (h.below b1) hl).mono ?_
    rintro e w2 ⟨rfl, b2⟩
    have b02 := Keeps.step b1 b2
    cases hF : finB c
    · have e0 : Hid (res = false) := Lib.hid (by rw [HD.out, HW2.out, hF]; rfl)
      go_wp2_with fail
      go_ret
      exact ⟨ret_bool e0.out.symm, b02⟩
    · have e0 : Hid (res = eqL (starW c [] l) (longL c)) := Lib.hid (by rw [HD.out, HW2.out, hF]; rfl)
      have HF2 := Lib.hid (HP.out hF)
      clear hF
      go_wp2_with fail
      refine (longestImpl (h.below b02) HF2.out).mono ?_
      rintro e w3 ⟨r3, rfl, f3, b3⟩
      have b03 := Keeps.step b02 b3
      go_wp2_with fail
      refine (equalWordsImpl ((f1.below b2).below b3).reads f3.reads (by have := HL15.out; omega) (by have := HF2.out.long.2; omega)).mono ?_
      rintro e w4 ⟨rfl, hw4⟩
      have b04 := Keeps.step b03 (below_quiet hw4)
      clear hw4
      generalize eqL (starW c [] l) (longL c) = q at *
      go_wp2_with fail
      go_ret
      exact ⟨ret_bool e0.out.symm, b04⟩

set_option maxHeartbeats 1000000 in
theorem coversAllSpec {S S' : Nat → Prop} {u v : Value} {c : List (List Int)} {l : List Int} {w : World} (h : RII S w u c) (h' : RI S' w v l) (hl : total c ≤ 16777216) (hl' : l.length ≤ 16777216) :
    Calls Try.prog 36 #[u, v] w fun e w' => e = .returned (.bool (covB c l)) ∧ Below w.heap.size w w' := by
  have HD : Hid (covB c l = (isWd c l && (finB c && eqL (starW c [] l) (longL c)))) := Lib.hid rfl
  have HP : Hid (finB c = true → FinP c) := Lib.hid finB_p
  have HWL : Hid (isWd c l = true → (starW c [] l).length ≤ 15) := Lib.hid (fun h => by
    obtain ⟨h1, h2, h3⟩ := isWd_parts h
    have := starW_len (isC_iff.1 h1) l (x := []) h3 (fun y hy => by simp at hy) (by simp; omega)
    simp at this; omega)
  generalize covB c l = res at *
  go_enter Try.func36, Try.ntmps36
  go_wp2_with fail
  refine (starWordSpec h h' hl hl').mono ?_
  rintro e w1 ⟨r1, rfl, f1, b1⟩
  go_wp2_with fail
  refine (longestSpec (h.below b1) hl).mono ?_
  rintro e w2 ⟨r2, rfl, f2, b2⟩
  have b02 := Keeps.step b1 b2
  cases hW : isWd c l
  · have e0 : Hid (res = false) := Lib.hid (by rw [HD.out, hW]; rfl)
    go_wp2_with fail
    go_ret
    exact ⟨ret_bool e0.out.symm, b02⟩
  · have HW2 := Lib.hid hW
    have HL15 := Lib.hid (HWL.out hW)
    rw [hW, if_pos rfl] at f1
    clear hW
    cases hF : finB c
    · have e0 : Hid (res = false) := Lib.hid (by rw [HD.out, HW2.out, hF]; rfl)
      go_wp2_with fail
      go_ret
      exact ⟨ret_bool e0.out.symm, b02⟩
    · have e0 : Hid (res = eqL (starW c [] l) (longL c)) := Lib.hid (by rw [HD.out, HW2.out, hF]; rfl)
      have HF2 := Lib.hid (HP.out hF)
      rw [hF, if_pos rfl] at f2
      clear hF
      go_wp2_with fail
      refine (equalWordsSpec (f1.below b2).reads f2.reads (by have := HL15.out; omega) (by have := HF2.out.long.2; omega)).mono ?_
      rintro e w4 ⟨rfl, hw4⟩
      have b04 := Keeps.step b02 (below_quiet hw4)
      clear hw4
      generalize eqL (starW c [] l) (longL c) = q at *
      go_wp2_with fail
      go_ret
      exact ⟨ret_bool e0.out.symm, b04⟩
end Go.Proofs.Yteglcjembimegaa
