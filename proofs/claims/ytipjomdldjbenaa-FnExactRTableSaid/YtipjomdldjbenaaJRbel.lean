/- The order of elements by the reference (l15Below). -/
import Derived.Test.YtipjomdldjbenaaJGRp
import Derived.Test.YtipjomdldjbenaaJGStar
import Derived.Test.YtipjomdldjbenaaJAppS
import Derived.Deep.RegionWith
namespace Go.Proofs.Ytipjomdldjbenaa
open Go.RowKit
set_option maxRecDepth 20000

theorem nf_empty {c : List (List Int)} {mu : List Int} : (nf c 30 mu).length = 0 ↔ firstN mu = none := by
  cases e : firstN mu with
  | none => simp [nf_end e]
  | some i => simp [nf, e]
theorem normL_cons {c : List (List Int)} (hc : CartanP c) {mu : List Int} {m : Nat} (h : Im c mu m) (hm : m ≤ 28) (s : Int) : normL c (s :: nf c 30 mu) = nf c 30 (refl c s.toNat mu) := by
  unfold normL
  show nf c 30 (refl c s.toNat (image c (nf c 30 mu))) = _
  rw [nf_image hc m h (by omega)]

def BelP (c : List (List Int)) (v : List Int) : Prop := ∀ {S S1 S2 : Nat → Prop} {x y z : Value} {mu : List Int} {m : Nat} {w : World}, RII S w x c → RI S1 w y (nf c 30 mu) → RI S2 w z v → Im c mu m → m ≤ 28 → Lets c.length v → v.length ≤ 15 →
  Calls Try.prog 50 #[x, y, z] w fun e w' => e = .returned (.bool (bel c mu v)) ∧ Below w.heap.size w w'

set_option maxHeartbeats 1000000 in
theorem belP_nil (c : List (List Int)) : BelP c [] := by
  intro S S1 S2 x y z mu m w h1 h2 h3 _ _ _ _
  obtain ⟨a2, c2, rfl⟩ := h2.form
  obtain ⟨a3, c3, rfl⟩ := h3.form
  have hr : bel c mu [] = (((nf c 30 mu).length : Int) == 0) := by
    show decide (firstN mu = none) = _
    by_cases e : firstN mu = none
    · have := nf_empty (c := c).2 e
      rw [decide_eq_true e]; exact (beq_iff_eq.2 (by omega)).symm
    · have := mt (nf_empty (c := c)).1 e
      rw [decide_eq_false e]; exact (beq_eq_false_iff_ne.2 (by omega)).symm
  rw [hr]
  clear hr
  generalize (nf c 30 mu).length = L at *
  simp only [List.length_nil] at *
  go_enter Try.func50, Try.ntmps50
  go_wp2_with fail
  go_ret
  exact ⟨rfl, Below.refl _ _⟩

set_option maxHeartbeats 2000000 in
theorem belP_cons {c : List (List Int)} (hc : CartanP c) (hl : total c ≤ 16777216) {s : Int} {v : List Int} (ih : BelP c v) : BelP c (s :: v) := by
  intro S S1 S2 x y z mu m w h1 h2 h3 him hm hle hv
  have hs := hle s (by simp)
  have hle' : Lets c.length v := fun y hy => hle y (by simp [hy])
  have hiL : s.toNat < c.length := by omega
  have hul := nfl_le hc him (by omega)
  have hlu := nfl_lets hc m him (by omega)
  have himg : image c (nf c 30 mu) = mu := nf_image hc m him (by omega)
  have hnc := normL_cons hc him hm s
  have hml : mu.length = c.length := him.1
  obtain ⟨i, rfl⟩ : ∃ i : Nat, s = (i : Int) := ⟨s.toNat, by omega⟩
  simp only [Int.toNat_natCast] at *
  have hB : bel c mu ((i : Int) :: v) = (decide ((nf c 30 mu).length ≤ v.length + 1) && bel c (if num mu i < 0 then refl c i mu else mu) v) := rfl
  have HLC := Lib.hid (show Lets c.length ((i : Int) :: nf c 30 mu) from fun q hq => by
    rcases List.mem_cons.1 hq with rfl | hq
    · exact hs
    · exact hlu q hq)
  obtain ⟨a3, c3, rfl⟩ := h3.form
  obtain ⟨b3, o3, q3, e3, hc3, hq3⟩ := RI.at h3 (j := 0) (by simp)
  have hcap := (RL.cap h3).1
  simp only [List.length_cons] at hcap hv h3 ⊢
  subst e3
  obtain rfl : q3 = (i : Int) := by have := hq3.out; simpa using this.symm
  rw [Nat.add_zero] at hc3
  obtain ⟨a2, c2, rfl⟩ := h2.form
  obtain ⟨A1, C1, hdr, hrun⟩ : ∃ (A1 C1 : Nat), RI S2 w (.slice (some ⟨b3, A1, none⟩) v.length C1) v ∧ ((c3 = 1 ∧ A1 = o3 ∧ C1 = 0 ∧ v.length = 0) ∨ (1 < c3 ∧ A1 = o3 + 1 ∧ C1 = c3 - 1)) := by
    rcases (show c3 = 1 ∨ 1 < c3 by omega) with hcp | hcp
    · have hn0 : v.length = 0 := by omega
      refine ⟨o3, 0, ?_, .inl ⟨hcp, rfl, rfl, hn0⟩⟩
      have := RL.cutEnd h3 (k := 1) (by omega) (by omega)
      rw [hn0]
      exact this
    · exact ⟨o3 + 1, c3 - 1, by simpa using RL.cutFrom h3 (k := 1) (by omega), .inr ⟨hcp, rfl, rfl⟩⟩
  have HIM := Lib.hid him
  have HS := Lib.hid hs
  clear hs
  have i0 : ((v.length : Int) + 1 == 0) = false := beq_eq_false_iff_ne.2 (by omega)
  have HIMG := Lib.hid himg
  have HNC := Lib.hid hnc
  have HB := Lib.hid hB
  have HLE := Lib.hid hle'
  have HUL := Lib.hid hul
  have HLU := Lib.hid hlu
  clear himg hnc hB hle hle' hlu hq3 him hul h3
  generalize bel c mu ((i : Int) :: v) = res at *
  generalize hU : nf c 30 mu = U at *
  have HU := Lib.hid hU
  clear hU
  generalize hn' : v.length = n at *
  have HN := Lib.hid hn'
  clear hn'
  by_cases hlen : U.length ≤ n + 1
  · have i1 : ¬ (n : Int) + 1 < (U.length : Int) := by omega
    rcases hrun with ⟨rfl, rfl, rfl, hn0⟩ | ⟨hc1, rfl, rfl⟩
    · subst hn0
      go_enter Try.func50, Try.ntmps50
      go_wp2_with fail
      have l1 := World.block_lt_of_cell? w _ hc3
      go_region_with (first
        | (go_at_call 56; refine (imageSpec h1.drew h2.drew hc HLU.out hl (by have := HUL.out; omega)).mono ?_; rintro e w1 ⟨r1, rfl, f1, b1⟩; rw [HIMG.out] at f1; obtain ⟨a1, c1, rfl⟩ := f1.reads.form; obtain ⟨b4, o4, q4, e4, hc4, hq4⟩ := RI.at f1.reads (j := i) (by omega); subst e4; have hc3b := (b1.cell l1).trans hc3))
      all_goals
        have b01 : Below w.heap.size w w1 := ((Below.refl _ w).drew).trans b1
        have hn : num mu i = q4 := num_at hq4.out
        clear hq4 hc4 f1 b1
        have hlen2 := decide_eq_true hlen
        by_cases hneg : q4 < 0
        · obtain ⟨m', hm', him2⟩ := HIM.out.back hc (by omega) (i := i) (x := q4) (by rw [← hn]; simp [num, hml, hiL]) hneg
          have HB2 : Hid (res = bel c (refl c i mu) v) := Lib.hid (by rw [HB.out, hlen2, Bool.true_and, hn, if_pos hneg])
          have HIM2 := Lib.hid him2
          clear HB hlen2 hn him2
          have i5 := decide_eq_true hneg
          have bb : Below w1.heap.size w1 (w1.alloc (.cells #[.int .i64 i] 3)) := (Below.refl _ _).alloc (Nat.le_refl _) _
          have b0b := Keeps.step b01 bb
          go_wp2_with fail
          refine (concatSpec (RI.one w1 i) (h2.below b0b) (by simp) (by have := HUL.out; omega)).mono ?_
          rintro e w2 ⟨r2, rfl, f2, b2⟩
          have b02 := Keeps.step b0b b2
          go_wp2_with fail
          refine (normalSpec (h1.below b02) f2.reads hc HLC.out hl (by have := HUL.out; simp; omega)).mono ?_
          rintro e w3 ⟨r3, rfl, f3, b3'⟩
          have b03 := Keeps.step b02 b3'
          rw [show normL c ([(i : Int)] ++ U) = nf c 30 (refl c i mu) from HNC.out] at f3
          go_wp2_with fail
          refine (ih (h1.below b03) f3.reads (hdr.below b03) HIM2.out (by omega) HLE.out (by rw [HN.out]; omega)).mono ?_
          rintro e w4 ⟨rfl, b4'⟩
          rw [← HB2.out]
          go_wp2_with fail
          go_ret
          exact ⟨rfl, Keeps.step b03 b4'⟩
        · have HB2 : Hid (res = bel c mu v) := Lib.hid (by rw [HB.out, hlen2, Bool.true_and, hn, if_neg hneg])
          clear HB hlen2 hn
          have i5 := decide_eq_false hneg
          have h22 : RI S1 w1 (.slice a2 U.length c2) (nf c 30 mu) := (congrArg (RI S1 w1 (.slice a2 U.length c2)) HU.out).mpr (h2.below b01)
          go_wp2_with fail
          refine (ih (h1.below b01) h22 (hdr.below b01) HIM.out hm HLE.out (by rw [HN.out]; omega)).mono ?_
          rintro e w4 ⟨rfl, b4'⟩
          rw [← HB2.out]
          go_wp2_with fail
          go_ret
          exact ⟨rfl, Keeps.step b01 b4'⟩
    · go_enter Try.func50, Try.ntmps50
      go_wp2_with fail
      have l1 := World.block_lt_of_cell? w _ hc3
      go_region_with (first
        | (go_at_call 56; refine (imageSpec h1.drew h2.drew hc HLU.out hl (by have := HUL.out; omega)).mono ?_; rintro e w1 ⟨r1, rfl, f1, b1⟩; rw [HIMG.out] at f1; obtain ⟨a1, c1, rfl⟩ := f1.reads.form; obtain ⟨b4, o4, q4, e4, hc4, hq4⟩ := RI.at f1.reads (j := i) (by omega); subst e4; have hc3b := (b1.cell l1).trans hc3))
      all_goals
        have b01 : Below w.heap.size w w1 := ((Below.refl _ w).drew).trans b1
        have hn : num mu i = q4 := num_at hq4.out
        clear hq4 hc4 f1 b1
        have hlen2 := decide_eq_true hlen
        by_cases hneg : q4 < 0
        · obtain ⟨m', hm', him2⟩ := HIM.out.back hc (by omega) (i := i) (x := q4) (by rw [← hn]; simp [num, hml, hiL]) hneg
          have HB2 : Hid (res = bel c (refl c i mu) v) := Lib.hid (by rw [HB.out, hlen2, Bool.true_and, hn, if_pos hneg])
          have HIM2 := Lib.hid him2
          clear HB hlen2 hn him2
          have i5 := decide_eq_true hneg
          have bb : Below w1.heap.size w1 (w1.alloc (.cells #[.int .i64 i] 3)) := (Below.refl _ _).alloc (Nat.le_refl _) _
          have b0b := Keeps.step b01 bb
          go_wp2_with fail
          refine (concatSpec (RI.one w1 i) (h2.below b0b) (by simp) (by have := HUL.out; omega)).mono ?_
          rintro e w2 ⟨r2, rfl, f2, b2⟩
          have b02 := Keeps.step b0b b2
          go_wp2_with fail
          refine (normalSpec (h1.below b02) f2.reads hc HLC.out hl (by have := HUL.out; simp; omega)).mono ?_
          rintro e w3 ⟨r3, rfl, f3, b3'⟩
          have b03 := Keeps.step b02 b3'
          rw [show normL c ([(i : Int)] ++ U) = nf c 30 (refl c i mu) from HNC.out] at f3
          go_wp2_with fail
          refine (ih (h1.below b03) f3.reads (hdr.below b03) HIM2.out (by omega) HLE.out (by rw [HN.out]; omega)).mono ?_
          rintro e w4 ⟨rfl, b4'⟩
          rw [← HB2.out]
          go_wp2_with fail
          go_ret
          exact ⟨rfl, Keeps.step b03 b4'⟩
        · have HB2 : Hid (res = bel c mu v) := Lib.hid (by rw [HB.out, hlen2, Bool.true_and, hn, if_neg hneg])
          clear HB hlen2 hn
          have i5 := decide_eq_false hneg
          have h22 : RI S1 w1 (.slice a2 U.length c2) (nf c 30 mu) := (congrArg (RI S1 w1 (.slice a2 U.length c2)) HU.out).mpr (h2.below b01)
          go_wp2_with fail
          refine (ih (h1.below b01) h22 (hdr.below b01) HIM.out hm HLE.out (by rw [HN.out]; omega)).mono ?_
          rintro e w4 ⟨rfl, b4'⟩
          rw [← HB2.out]
          go_wp2_with fail
          go_ret
          exact ⟨rfl, Keeps.step b01 b4'⟩
  · have i1 : (n : Int) + 1 < (U.length : Int) := by omega
    have i2 : ((U.length : Int) == 0) = false := beq_eq_false_iff_ne.2 (by omega)
    have hB := HB.out
    rw [decide_eq_false hlen, Bool.false_and] at hB
    subst hB
    clear HB HUL HIMG HLC HNC
    generalize U.length = L at *
    go_enter Try.func50, Try.ntmps50
    go_wp2_with fail
    go_ret
    exact ⟨rfl, Below.refl _ _⟩
end Go.Proofs.Ytipjomdldjbenaa
