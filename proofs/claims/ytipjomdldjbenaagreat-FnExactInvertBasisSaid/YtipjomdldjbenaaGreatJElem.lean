/- Whether a word is an element's normal form. Condition: sizes up to 2^24. -/
import Derived.Test.YtipjomdldjbenaaGreatJGNrm
import Derived.Test.YtipjomdldjbenaaGreatJCoeff
namespace Go.Proofs.YtipjomdldjbenaaGreat
open Go.RowKit
set_option maxRecDepth 20000

def isE (c : List (List Int)) (l : List Int) : Bool := isWd c l && eqL (normL c l) l
theorem isE_wd {c : List (List Int)} {l : List Int} (h : isE c l = true) : isWd c l = true ∧ normL c l = l := by
  unfold isE at h
  simp only [Bool.and_eq_true] at h
  refine ⟨h.1, ?_⟩
  have := eqL_cmp (normL c l) l
  rw [h.2] at this
  exact cmpW_eq.1 (by simpa using this)

set_option maxHeartbeats 1000000 in
theorem isElementImpl {S S' : Nat → Prop} {u v : Value} {c : List (List Int)} {l : List Int} {w : World} (h : RII S w u c) (h' : RI S' w v l) (hl : total c ≤ 16777216) (hl' : l.length ≤ 16777216) :
    Calls Tryz.prog 87 #[u, v] w fun e w' => e = .returned (.bool (isE c l)) ∧ Below w.heap.size w w' := by
  have HY : Hid (isWd c l = true → isE c l = eqL (normL c l) l ∧ CartanP c ∧ Lets c.length l ∧ l.length ≤ 15 ∧ (normL c l).length ≤ l.length) := Lib.hid (fun h => by
    obtain ⟨h1, h2, h3⟩ := isWd_parts h
    exact ⟨by unfold isE; rw [h]; rfl, isC_iff.1 h1, h3, h2, normL_le (isC_iff.1 h1) h3 (by omega)⟩)
  have HN : Hid (isWd c l = false → isE c l = false) := Lib.hid (fun h => by unfold isE; rw [h]; rfl)
  generalize isE c l = res at *
  go_enter Tryz.func87, Tryz.ntmps87
  go_wp2_with fail
  refine (isWordImpl h h' hl hl').mono ?_
  rintro e w3 ⟨rfl, hw3⟩
  have b3 := below_quiet hw3
  clear hw3
  cases hg : isWd c l
  · have e0 := Lib.hid (HN.out hg)
    go_wp2_with fail
    go_ret
    exact ⟨ret_bool e0.out.symm, b3⟩
  · have HA := Lib.hid (HY.out hg)
    go_wp2_with fail
    refine (reducedImpl (h.below b3) (h'.below b3) HA.out.2.1 HA.out.2.2.1 (by have := HA.out.2.2.2.1; omega)).mono ?_
    rintro e w4 ⟨r4, rfl, f4, b4⟩
    have b04 := Keeps.step b3 b4
    go_wp2_with fail
    refine (equalWordsImpl f4.reads (h'.below b04) (by have := HA.out.2.2.2; omega) hl').mono ?_
    rintro e w5 ⟨rfl, hw5⟩
    have b5 := Keeps.step b04 (below_quiet hw5)
    clear hw5
    have e0 := Lib.hid HA.out.1
    generalize eqL (normL c l) l = q at *
    go_wp2_with fail
    go_ret
    exact ⟨ret_bool e0.out.symm, b5⟩

set_option maxHeartbeats 1000000 in
theorem isElementSpec {S S' : Nat → Prop} {u v : Value} {c : List (List Int)} {l : List Int} {w : World} (h : RII S w u c) (h' : RI S' w v l) (hl : total c ≤ 16777216) (hl' : l.length ≤ 16777216) :
    Calls Tryz.prog 71 #[u, v] w fun e w' => e = .returned (.bool (isE c l)) ∧ Below w.heap.size w w' := by
  have HY : Hid (isWd c l = true → isE c l = eqL (nform c l) l) := Lib.hid (fun h => by
    unfold isE nform; rw [h]; rfl)
  have HN : Hid (isWd c l = false → isE c l = false) := Lib.hid (fun h => by unfold isE; rw [h]; rfl)
  have HL := Lib.hid (nform_le c l)
  generalize isE c l = res at *
  go_enter Tryz.func71, Tryz.ntmps71
  go_wp2_with fail
  refine (normalFormSpec h h' hl hl').mono ?_
  rintro e w3 ⟨r3, rfl, f3, b3⟩
  cases hg : isWd c l
  · have e0 := Lib.hid (HN.out hg)
    go_wp2_with fail
    go_ret
    exact ⟨ret_bool e0.out.symm, b3⟩
  · have e0 := Lib.hid (HY.out hg)
    go_wp2_with fail
    refine (equalWordsSpec f3.reads (h'.below b3) (by have := HL.out; omega) hl').mono ?_
    rintro e w5 ⟨rfl, hw5⟩
    have b5 := Keeps.step b3 (below_quiet hw5)
    clear hw5
    generalize eqL (nform c l) l = q at *
    go_wp2_with fail
    go_ret
    exact ⟨ret_bool e0.out.symm, b5⟩
end Go.Proofs.YtipjomdldjbenaaGreat
