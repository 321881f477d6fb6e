/- The order of elements by the reference (l15Below). R-polynomials by the reference (l22R). R-polynomials by the program: the recursion that remembers. Condition: lengths together at most 27. R-polynomials and numbers of points, by the program and by the reference. Condition: sizes up to 2^24. -/
import Derived.Test.YtipjomdldjbenaaGreatJGRp
import Derived.Test.YtipjomdldjbenaaGreatJGStar
import Derived.Test.YtipjomdldjbenaaGreatJAppS
import Derived.Deep.RegionWith
import Derived.Test.YtipjomdldjbenaaGreatJMemo
import Derived.Test.YtipjomdldjbenaaGreatJGCart
import Derived.Carry
/-! The order of elements by the reference (l15Below). -/
namespace Go.Proofs.YtipjomdldjbenaaGreat
open Go.RowKit
set_option maxRecDepth 20000

theorem nf_empty {c : List (List Int)} {mu : List Int} : (nf c 30 mu).length = 0 ↔ firstN mu = none := by
  cases e : firstN mu with
  | none => simp [nf_end e]
  | some i => simp [nf, e]
theorem normL_cons {c : List (List Int)} (hc : CartanP c) {mu : List Int} {m : Nat} (h : Im c mu m) (hm : m ≤ 28) (s : Int) : normL c (s :: nf c 30 mu) = nf c 30 (refl c s.toNat mu) := by
  unfold normL
  show nf c 30 (refl c s.toNat (image c (nf c 30 mu))) = _
  rw [nf_image hc m h (by omega)]

def BelP (c : List (List Int)) (v : List Int) : Prop := ∀ {S S1 S2 : Nat → Prop} {x y z : Value} {mu : List Int} {m : Nat} {w : World}, RII S w x c → RI S1 w y (nf c 30 mu) → RI S2 w z v → Im c mu m → m ≤ 28 → Lets c.length v → v.length ≤ 15 →
  Calls Tryz.prog 65 #[x, y, z] w fun e w' => e = .returned (.bool (bel c mu v)) ∧ Below w.heap.size w w'

set_option maxHeartbeats 1000000 in
theorem belP_nil (c : List (List Int)) : BelP c [] := by
  intro S S1 S2 x y z mu m w h1 h2 h3 _ _ _ _
  obtain ⟨a2, c2, rfl⟩ := h2.form
  obtain ⟨a3, c3, rfl⟩ := h3.form
  have hr : bel c mu [] = (((nf c 30 mu).length : Int) == 0) := by
    show decide (firstN mu = none) = _
    by_cases e : firstN mu = none
    · have := nf_empty (c := c).2 e
      rw [decide_eq_true e]; exact (beq_iff_eq.2 (by omega)).symm
    · have := mt (nf_empty (c := c)).1 e
      rw [decide_eq_false e]; exact (beq_eq_false_iff_ne.2 (by omega)).symm
  rw [hr]
  clear hr
  generalize (nf c 30 mu).length = L at *
  simp only [List.length_nil] at *
  go_enter Tryz.func65, Tryz.ntmps65
  go_wp2_with fail
  go_ret
  exact ⟨rfl, Below.refl _ _⟩

set_option maxHeartbeats 2000000 in
theorem belP_cons {c : List (List Int)} (hc : CartanP c) (hl : total c ≤ 16777216) {s : Int} {v : List Int} (ih : BelP c v) : BelP c (s :: v) := by
  intro S S1 S2 x y z mu m w h1 h2 h3 him hm hle hv
  have hs := hle s (by simp)
  have hle' : Lets c.length v := fun y hy => hle y (by simp [hy])
  have hiL : s.toNat < c.length := by omega
  have hul := nfl_le hc him (by omega)
  have hlu := nfl_lets hc m him (by omega)
  have himg : image c (nf c 30 mu) = mu := nf_image hc m him (by omega)
  have hnc := normL_cons hc him hm s
  have hml : mu.length = c.length := him.1
  obtain ⟨i, rfl⟩ : ∃ i : Nat, s = (i : Int) := ⟨s.toNat, by omega⟩
  simp only [Int.toNat_natCast] at *
  have hB : bel c mu ((i : Int) :: v) = (decide ((nf c 30 mu).length ≤ v.length + 1) && bel c (if num mu i < 0 then refl c i mu else mu) v) := rfl
  have HLC := Lib.hid (show Lets c.length ((i : Int) :: nf c 30 mu) from fun q hq => by
    rcases List.mem_cons.1 hq with rfl | hq
    · exact hs
    · exact hlu q hq)
  obtain ⟨a3, c3, rfl⟩ := h3.form
  obtain ⟨b3, o3, q3, e3, hc3, hq3⟩ := RI.at h3 (j := 0) (by simp)
  have hcap := (RL.cap h3).1
  simp only [List.length_cons] at hcap hv h3 ⊢
  subst e3
  obtain rfl : q3 = (i : Int) := by have := hq3.out; simpa using this.symm
  rw [Nat.add_zero] at hc3
  obtain ⟨a2, c2, rfl⟩ := h2.form
  obtain ⟨A1, C1, hdr, hrun⟩ : ∃ (A1 C1 : Nat), RI S2 w (.slice (some ⟨b3, A1, none⟩) v.length C1) v ∧ ((c3 = 1 ∧ A1 = o3 ∧ C1 = 0 ∧ v.length = 0) ∨ (1 < c3 ∧ A1 = o3 + 1 ∧ C1 = c3 - 1)) := by
    rcases (show c3 = 1 ∨ 1 < c3 by omega) with hcp | hcp
    · have hn0 : v.length = 0 := by omega
      refine ⟨o3, 0, ?_, .inl ⟨hcp, rfl, rfl, hn0⟩⟩
      have := RL.cutEnd h3 (k := 1) (by omega) (by omega)
      rw [hn0]
      exact this
    · exact ⟨o3 + 1, c3 - 1, by simpa using RL.cutFrom h3 (k := 1) (by omega), .inr ⟨hcp, rfl, rfl⟩⟩
  have HIM := Lib.hid him
  have HS := Lib.hid hs
  clear hs
  have i0 : ((v.length : Int) + 1 == 0) = false := beq_eq_false_iff_ne.2 (by omega)
  have HIMG := Lib.hid himg
  have HNC := Lib.hid hnc
  have HB := Lib.hid hB
  have HLE := Lib.hid hle'
  have HUL := Lib.hid hul
  have HLU := Lib.hid hlu
  clear himg hnc hB hle hle' hlu hq3 him hul h3
  generalize bel c mu ((i : Int) :: v) = res at *
  generalize hU : nf c 30 mu = U at *
  have HU := Lib.hid hU
  clear hU
  generalize hn' : v.length = n at *
  have HN := Lib.hid hn'
  clear hn'
  by_cases hlen : U.length ≤ n + 1
  · have i1 : ¬ (n : Int) + 1 < (U.length : Int) := by omega
    rcases hrun with ⟨rfl, rfl, rfl, hn0⟩ | ⟨hc1, rfl, rfl⟩
    · subst hn0
      go_enter Tryz.func65, Tryz.ntmps65
      go_wp2_with fail
      have l1 := World.block_lt_of_cell? w _ hc3
      go_region_with (first
        | (go_at_call 69; refine (imageSpec h1.drew h2.drew hc HLU.out hl (by have := HUL.out; omega)).mono ?_; rintro e w1 ⟨r1, rfl, f1, b1⟩; rw [HIMG.out] at f1; obtain ⟨a1, c1, rfl⟩ := f1.reads.form; obtain ⟨b4, o4, q4, e4, hc4, hq4⟩ := RI.at f1.reads (j := i) (by omega); subst e4; have hc3b := (b1.cell l1).trans hc3))
      all_goals
        have b01 : Below w.heap.size w w1 := ((Below.refl _ w).drew).trans b1
        have hn : num mu i = q4 := num_at hq4.out
        clear hq4 hc4 f1 b1
        have hlen2 := decide_eq_true hlen
        by_cases hneg : q4 < 0
        · obtain ⟨m', hm', him2⟩ := HIM.out.back hc (by omega) (i := i) (x := q4) (by rw [← hn]; simp [num, hml, hiL]) hneg
          have HB2 : Hid (res = bel c (refl c i mu) v) := Lib.hid (by rw [HB.out, hlen2, Bool.true_and, hn, if_pos hneg])
          have HIM2 := Lib.hid him2
          clear HB hlen2 hn him2
          have i5 := decide_eq_true hneg
          have bb : Below w1.heap.size w1 (w1.alloc (.cells #[.int .i64 i] 3)) := (Below.refl _ _).alloc (Nat.le_refl _) _
          have b0b := Keeps.step b01 bb
          go_wp2_with fail
          refine (concatSpec (RI.one w1 i) (h2.below b0b) (by simp) (by have := HUL.out; omega)).mono ?_
          rintro e w2 ⟨r2, rfl, f2, b2⟩
          have b02 := Keeps.step b0b b2
          go_wp2_with fail
          refine (normalSpec (h1.below b02) f2.reads hc HLC.out hl (by have := HUL.out; simp; omega)).mono ?_
          rintro e w3 ⟨r3, rfl, f3, b3'⟩
          have b03 := Keeps.step b02 b3'
          rw [show normL c ([(i : Int)] ++ U) = nf c 30 (refl c i mu) from HNC.out] at f3
          go_wp2_with fail
          refine (ih (h1.below b03) f3.reads (hdr.below b03) HIM2.out (by omega) HLE.out (by rw [HN.out]; omega)).mono ?_
          rintro e w4 ⟨rfl, b4'⟩
          rw [← HB2.out]
          go_wp2_with fail
          go_ret
          exact ⟨rfl, Keeps.step b03 b4'⟩
        · have HB2 : Hid (res = bel c mu v) := Lib.hid (by rw [HB.out, hlen2, Bool.true_and, hn, if_neg hneg])
          clear HB hlen2 hn
          have i5 := decide_eq_false hneg
          have h22 : RI S1 w1 (.slice a2 U.length c2) (nf c 30 mu) := (congrArg (RI S1 w1 (.slice a2 U.length c2)) HU.out).mpr (h2.below b01)
          go_wp2_with fail
          refine (ih (h1.below b01) h22 (hdr.below b01) HIM.out hm HLE.out (by rw [HN.out]; omega)).mono ?_
          rintro e w4 ⟨rfl, b4'⟩
          rw [← HB2.out]
          go_wp2_with fail
          go_ret
          exact ⟨rfl, Keeps.step b01 b4'⟩
    · go_enter Tryz.func65, Tryz.ntmps65
      go_wp2_with fail
      have l1 := World.block_lt_of_cell? w _ hc3
      go_region_with (first
        | (go_at_call 69; refine (imageSpec h1.drew h2.drew hc HLU.out hl (by have := HUL.out; omega)).mono ?_; rintro e w1 ⟨r1, rfl, f1, b1⟩; rw [HIMG.out] at f1; obtain ⟨a1, c1, rfl⟩ := f1.reads.form; obtain ⟨b4, o4, q4, e4, hc4, hq4⟩ := RI.at f1.reads (j := i) (by omega); subst e4; have hc3b := (b1.cell l1).trans hc3))
      all_goals
        have b01 : Below w.heap.size w w1 := ((Below.refl _ w).drew).trans b1
        have hn : num mu i = q4 := num_at hq4.out
        clear hq4 hc4 f1 b1
        have hlen2 := decide_eq_true hlen
        by_cases hneg : q4 < 0
        · obtain ⟨m', hm', him2⟩ := HIM.out.back hc (by omega) (i := i) (x := q4) (by rw [← hn]; simp [num, hml, hiL]) hneg
          have HB2 : Hid (res = bel c (refl c i mu) v) := Lib.hid (by rw [HB.out, hlen2, Bool.true_and, hn, if_pos hneg])
          have HIM2 := Lib.hid him2
          clear HB hlen2 hn him2
          have i5 := decide_eq_true hneg
          have bb : Below w1.heap.size w1 (w1.alloc (.cells #[.int .i64 i] 3)) := (Below.refl _ _).alloc (Nat.le_refl _) _
          have b0b := Keeps.step b01 bb
          go_wp2_with fail
          refine (concatSpec (RI.one w1 i) (h2.below b0b) (by simp) (by have := HUL.out; omega)).mono ?_
          rintro e w2 ⟨r2, rfl, f2, b2⟩
          have b02 := Keeps.step b0b b2
          go_wp2_with fail
          refine (normalSpec (h1.below b02) f2.reads hc HLC.out hl (by have := HUL.out; simp; omega)).mono ?_
          rintro e w3 ⟨r3, rfl, f3, b3'⟩
          have b03 := Keeps.step b02 b3'
          rw [show normL c ([(i : Int)] ++ U) = nf c 30 (refl c i mu) from HNC.out] at f3
          go_wp2_with fail
          refine (ih (h1.below b03) f3.reads (hdr.below b03) HIM2.out (by omega) HLE.out (by rw [HN.out]; omega)).mono ?_
          rintro e w4 ⟨rfl, b4'⟩
          rw [← HB2.out]
          go_wp2_with fail
          go_ret
          exact ⟨rfl, Keeps.step b03 b4'⟩
        · have HB2 : Hid (res = bel c mu v) := Lib.hid (by rw [HB.out, hlen2, Bool.true_and, hn, if_neg hneg])
          clear HB hlen2 hn
          have i5 := decide_eq_false hneg
          have h22 : RI S1 w1 (.slice a2 U.length c2) (nf c 30 mu) := (congrArg (RI S1 w1 (.slice a2 U.length c2)) HU.out).mpr (h2.below b01)
          go_wp2_with fail
          refine (ih (h1.below b01) h22 (hdr.below b01) HIM.out hm HLE.out (by rw [HN.out]; omega)).mono ?_
          rintro e w4 ⟨rfl, b4'⟩
          rw [← HB2.out]
          go_wp2_with fail
          go_ret
          exact ⟨rfl, Keeps.step b01 b4'⟩
  · have i1 : (n : Int) + 1 < (U.length : Int) := by omega
    have i2 : ((U.length : Int) == 0) = false := beq_eq_false_iff_ne.2 (by omega)
    have hB := HB.out
    rw [decide_eq_false hlen, Bool.false_and] at hB
    subst hB
    clear HB HUL HIMG HLC HNC
    generalize U.length = L at *
    go_enter Tryz.func65, Tryz.ntmps65
    go_wp2_with fail
    go_ret
    exact ⟨rfl, Below.refl _ _⟩
end Go.Proofs.YtipjomdldjbenaaGreat

/-! R-polynomials by the reference (l22R). -/
namespace Go.Proofs.YtipjomdldjbenaaGreat
open Go.RowKit
set_option maxRecDepth 20000

theorem belP_all {c : List (List Int)} (hc : CartanP c) (hl : total c ≤ 16777216) : ∀ v, BelP c v
  | [] => belP_nil c
  | _ :: v => belP_cons hc hl (belP_all hc hl v)

def RP (c : List (List Int)) (v : List Int) : Prop := ∀ {S S1 S2 : Nat → Prop} {x y z : Value} {mu : List Int} {m : Nat} {w : World}, RII S w x c → RI S1 w y (nf c 30 mu) → RI S2 w z v → Im c mu m → m + v.length ≤ 27 → Lets c.length v → v.length ≤ 15 →
  Calls Tryz.prog 36 #[x, y, z] w fun e w' => ∃ r, e = .returned r ∧ FI (New w w') w' r (rS c mu v) ∧ Below w.heap.size w w'

set_option maxHeartbeats 1000000 in
theorem rP_nil {c : List (List Int)} (hc : CartanP c) (hl : total c ≤ 16777216) : RP c [] := by
  intro S S1 S2 x y z mu m w h1 h2 h3 him hm hle hv
  have hbel := belP_all hc hl [] h1 h2 h3 him (by omega) hle hv
  have hR : rS c mu [] = if bel c mu [] then [1] else [] := rfl
  obtain ⟨a2, c2, rfl⟩ := h2.form
  obtain ⟨a3, c3, rfl⟩ := h3.form
  simp only [List.length_nil] at *
  generalize (nf c 30 mu).length = L at *
  cases hB : bel c mu []
  · rw [hB] at hbel hR
    rw [if_neg (by simp)] at hR
    rw [hR]
    clear hR hB
    go_enter Tryz.func36, Tryz.ntmps36
    go_wp2_with fail
    refine hbel.mono ?_
    rintro e w1 ⟨rfl, b1⟩
    go_wp2_with fail
    obtain ⟨w2, hw2⟩ : ∃ w2, w2 = w1.alloc (.cells #[] 3) := ⟨_, rfl⟩
    obtain ⟨f2, b2⟩ := fresh_of b1 hw2
    rw [← hw2]
    clear hw2
    go_ret
    exact ⟨_, rfl, f2, b2⟩
  · rw [hB] at hbel hR
    rw [if_pos rfl] at hR
    rw [hR]
    clear hR hB
    go_enter Tryz.func36, Tryz.ntmps36
    go_wp2_with fail
    refine hbel.mono ?_
    rintro e w1 ⟨rfl, b1⟩
    go_wp2_with fail
    obtain ⟨w2, hw2⟩ : ∃ w2, w2 = w1.alloc (.cells #[.int .i64 1] 3) := ⟨_, rfl⟩
    obtain ⟨f2, b2⟩ := fresh_one b1 hw2
    rw [← hw2]
    clear hw2
    go_ret
    exact ⟨_, rfl, f2, b2⟩

set_option maxHeartbeats 4000000 in
theorem rP_cons {c : List (List Int)} (hc : CartanP c) (hl : total c ≤ 16777216) {s : Int} {v : List Int} (ih : RP c v) : RP c (s :: v) := by
  intro S S1 S2 x y z mu m w h1 h2 h3 him hm hle hv
  have hs := hle s (by simp)
  have hle' : Lets c.length v := fun y hy => hle y (by simp [hy])
  have hiL : s.toNat < c.length := by omega
  have hul := nfl_le hc him (by omega)
  have hlu := nfl_lets hc m him (by omega)
  have hnc := normL_cons hc him (by omega) s
  have hml : mu.length = c.length := him.1
  have hbel := belP_all hc hl (s :: v) h1 h2 h3 him (by simp at hm; omega) hle hv
  obtain ⟨i, rfl⟩ : ∃ i : Nat, s = (i : Int) := ⟨s.toNat, by omega⟩
  simp only [Int.toNat_natCast] at *
  have hlt := nfl_eq hc him (by simp at hm; omega) (i := i) hiL
  have hR : rS c mu ((i : Int) :: v) = if bel c mu ((i : Int) :: v) then (if num mu i < 0 then rS c (refl c i mu) v else addP (shiftP (rS c (refl c i mu) v) 1) (subP (shiftP (rS c mu v) 1) (rS c mu v))) else [] := rfl
  have HLC := Lib.hid (show Lets c.length ((i : Int) :: nf c 30 mu) from fun q hq => by
    rcases List.mem_cons.1 hq with rfl | hq
    · exact hs
    · exact hlu q hq)
  obtain ⟨a3, c3, rfl⟩ := h3.form
  obtain ⟨b3, o3, q3, e3, hc3, hq3⟩ := RI.at h3 (j := 0) (by simp)
  have hcap := (RL.cap h3).1
  simp only [List.length_cons] at hcap hv h3 hbel hm ⊢
  subst e3
  obtain rfl : q3 = (i : Int) := by have := hq3.out; simpa using this.symm
  rw [Nat.add_zero] at hc3
  obtain ⟨a2, c2, rfl⟩ := h2.form
  obtain ⟨A1, C1, hdr, hrun⟩ : ∃ (A1 C1 : Nat), RI S2 w (.slice (some ⟨b3, A1, none⟩) v.length C1) v ∧ ((c3 = 1 ∧ A1 = o3 ∧ C1 = 0 ∧ v.length = 0) ∨ (1 < c3 ∧ A1 = o3 + 1 ∧ C1 = c3 - 1)) := by
    rcases (show c3 = 1 ∨ 1 < c3 by omega) with hcp | hcp
    · have hn0 : v.length = 0 := by omega
      refine ⟨o3, 0, ?_, .inl ⟨hcp, rfl, rfl, hn0⟩⟩
      have := RL.cutEnd h3 (k := 1) (by omega) (by omega)
      rw [hn0]
      exact this
    · exact ⟨o3 + 1, c3 - 1, by simpa using RL.cutFrom h3 (k := 1) (by omega), .inr ⟨hcp, rfl, rfl⟩⟩
  have HIM := Lib.hid him
  clear hs
  have i0 : ((v.length : Int) + 1 == 0) = false := beq_eq_false_iff_ne.2 (by omega)
  have HL1 := Lib.hid (rS_len c v (refl c i mu))
  have HL2 := Lib.hid (rS_len c v mu)
  have HR := Lib.hid hR
  have HLE := Lib.hid hle'
  have HUL := Lib.hid hul
  have HLT := Lib.hid hlt
  clear hR hle hle' hlu hq3 him hul h3 hlt
  generalize rS c mu ((i : Int) :: v) = res at *
  generalize hX : nf c 30 (refl c i mu) = X at *
  have HX := Lib.hid hX
  clear hX
  generalize hU : nf c 30 mu = U at *
  have HU := Lib.hid hU
  clear hU
  have HNC := Lib.hid hnc
  clear hnc
  generalize hn' : v.length = n at *
  have HN := Lib.hid hn'
  clear hn'
  cases hB : bel c mu ((i : Int) :: v)
  · rw [hB] at hbel
    have hR2 := HR.out
    rw [hB, if_neg (by simp)] at hR2
    clear HR hB hrun hdr
    subst hR2
    go_enter Tryz.func36, Tryz.ntmps36
    go_wp2_with fail
    refine hbel.mono ?_
    rintro e w1 ⟨rfl, b1⟩
    go_wp2_with fail
    obtain ⟨w2, hw2⟩ : ∃ w2, w2 = w1.alloc (.cells #[] 3) := ⟨_, rfl⟩
    obtain ⟨f2, b2⟩ := fresh_of b1 hw2
    rw [← hw2]
    clear hw2
    go_ret
    exact ⟨_, rfl, f2, b2⟩
  · rw [hB] at hbel HR
    clear hB
    rcases hrun with ⟨rfl, rfl, rfl, hn0⟩ | ⟨hc1, rfl, rfl⟩
    · subst hn0
      go_enter Tryz.func36, Tryz.ntmps36
      go_wp2_with fail
      refine hbel.mono ?_
      rintro e w1 ⟨rfl, b1⟩
      have hc3' := (b1.cell (p := ⟨b3, A1, none⟩) (World.block_lt_of_cell? w _ hc3)).trans hc3
      clear hc3
      have hR2 := HR.out
      rw [if_pos trivial] at hR2
      clear HR
      have bb : Below w1.heap.size w1 (w1.alloc (.cells #[.int .i64 i] 3)) := (Below.refl _ _).alloc (Nat.le_refl _) _
      have b0b := Keeps.step b1 bb
      go_wp2_with fail
      refine (concatSpec (RI.one w1 i) (h2.below b0b) (by simp) (by have := HUL.out; omega)).mono ?_
      rintro e w2 ⟨r2, rfl, f2, b2⟩
      have b02 := Keeps.step b0b b2
      go_wp2_with fail
      refine (normalSpec (h1.below b02) f2.reads hc HLC.out hl (by have := HUL.out; simp; omega)).mono ?_
      rintro e w3 ⟨r3, rfl, f3, b3'⟩
      have b03 := Keeps.step b02 b3'
      rw [show normL c ([(i : Int)] ++ U) = X from HNC.out] at f3
      obtain ⟨a4, c4, rfl⟩ := f3.reads.form
      clear f2 b2 hc3'
      have f3r : RI (New w2 w3) w3 (.slice a4 X.length c4) (nf c 30 (refl c i mu)) := (congrArg (RI (New w2 w3) w3 (.slice a4 X.length c4)) HX.out).mpr f3.reads
      clear f3
      by_cases hneg : num mu i < 0
      · rw [if_pos hneg] at hR2
        obtain ⟨m', hm', him2⟩ := HIM.out.back hc (by omega) (i := i) (x := num mu i) (by simp [num, hml, hiL]) hneg
        have HIM2 := Lib.hid him2
        have HR2 := Lib.hid hR2
        have i5 : (X.length : Int) < (U.length : Int) := by have := HLT.out.1 (by omega); omega
        clear him2 hR2 hneg
        go_wp2_with fail
        refine (ih (h1.below b03) f3r (hdr.below b03) HIM2.out (by rw [HN.out]; omega) HLE.out (by rw [HN.out]; omega)).mono ?_
        rintro e w4 ⟨r4, rfl, f4, b4⟩
        rw [← HR2.out] at f4
        go_wp2_with fail
        go_ret
        exact ⟨_, rfl, f4.mono (fun b hb => ⟨Nat.le_trans b03.size hb.1, hb.2⟩), Keeps.step b03 b4⟩
      · rw [if_neg hneg] at hR2
        have HIM2 := Lib.hid (HIM.out.step hc (by omega) hiL)
        have HR2 := Lib.hid hR2
        have i5 : ¬ (X.length : Int) < (U.length : Int) := by have := HLT.out.2 (by omega); omega
        clear hR2 hneg
        go_wp2_with fail
        refine (ih (h1.below b03) f3r (hdr.below b03) HIM2.out (by rw [HN.out]; omega) HLE.out (by rw [HN.out]; omega)).mono ?_
        rintro e w4 ⟨r4, rfl, f4, b4⟩
        have b04 := Keeps.step b03 b4
        go_wp2_with fail
        refine (shiftSpec f4.reads 1 (by decide) (by have := HL1.out; omega)).mono ?_
        rintro e w5 ⟨r5, rfl, f5, b5⟩
        have b05 := Keeps.step b04 b5
        clear f4 f3r
        have h22 : RI S1 w5 (.slice a2 U.length c2) (nf c 30 mu) := (congrArg (RI S1 w5 (.slice a2 U.length c2)) HU.out).mpr (h2.below b05)
        go_wp2_with fail
        refine (ih (h1.below b05) h22 (hdr.below b05) HIM.out (by rw [HN.out]; omega) HLE.out (by rw [HN.out]; omega)).mono ?_
        rintro e w6 ⟨r6, rfl, f6, b6⟩
        have b06 := Keeps.step b05 b6
        clear h22
        go_wp2_with fail
        refine (shiftSpec f6.reads 1 (by decide) (by have := HL2.out; omega)).mono ?_
        rintro e w7 ⟨r7, rfl, f7, b7⟩
        have b07 := Keeps.step b06 b7
        go_wp2_with fail
        refine (subSpec f7.reads (f6.reads.below b7) (shiftP_in (rS_in c v mu)) (by have := HL2.out; have := shiftP_len (rS c mu v); omega) (by have := HL2.out; omega)).mono ?_
        rintro e w8 ⟨r8, rfl, f8, b8⟩
        have b08 := Keeps.step b07 b8
        go_wp2_with fail
        refine (addSpec (f5.reads.below (Keeps.step b6 (Keeps.step b7 b8))) f8.reads (shiftP_in (rS_in c v _)) (subP_in _ _) (by have := HL1.out; have := shiftP_len (rS c (refl c i mu) v); omega) (by have := HL2.out; have := shiftP_len (rS c mu v); have := subP_le (shiftP (rS c mu v) 1) (rS c mu v); omega)).mono ?_
        rintro e w9 ⟨r9, rfl, f9, b9⟩
        have b09 := Keeps.step b08 b9
        rw [← HR2.out] at f9
        go_wp2_with fail
        go_ret
        exact ⟨_, rfl, f9.mono (fun b hb => ⟨Nat.le_trans b08.size hb.1, hb.2⟩), b09⟩
    · go_enter Tryz.func36, Tryz.ntmps36
      go_wp2_with fail
      refine hbel.mono ?_
      rintro e w1 ⟨rfl, b1⟩
      have hc3' := (b1.cell (p := ⟨b3, o3, none⟩) (World.block_lt_of_cell? w _ hc3)).trans hc3
      clear hc3
      have hR2 := HR.out
      rw [if_pos trivial] at hR2
      clear HR
      have bb : Below w1.heap.size w1 (w1.alloc (.cells #[.int .i64 i] 3)) := (Below.refl _ _).alloc (Nat.le_refl _) _
      have b0b := Keeps.step b1 bb
      go_wp2_with fail
      refine (concatSpec (RI.one w1 i) (h2.below b0b) (by simp) (by have := HUL.out; omega)).mono ?_
      rintro e w2 ⟨r2, rfl, f2, b2⟩
      have b02 := Keeps.step b0b b2
      go_wp2_with fail
      refine (normalSpec (h1.below b02) f2.reads hc HLC.out hl (by have := HUL.out; simp; omega)).mono ?_
      rintro e w3 ⟨r3, rfl, f3, b3'⟩
      have b03 := Keeps.step b02 b3'
      rw [show normL c ([(i : Int)] ++ U) = X from HNC.out] at f3
      obtain ⟨a4, c4, rfl⟩ := f3.reads.form
      clear f2 b2 hc3'
      have f3r : RI (New w2 w3) w3 (.slice a4 X.length c4) (nf c 30 (refl c i mu)) := (congrArg (RI (New w2 w3) w3 (.slice a4 X.length c4)) HX.out).mpr f3.reads
      clear f3
      by_cases hneg : num mu i < 0
      · rw [if_pos hneg] at hR2
        obtain ⟨m', hm', him2⟩ := HIM.out.back hc (by omega) (i := i) (x := num mu i) (by simp [num, hml, hiL]) hneg
        have HIM2 := Lib.hid him2
        have HR2 := Lib.hid hR2
        have i5 : (X.length : Int) < (U.length : Int) := by have := HLT.out.1 (by omega); omega
        clear him2 hR2 hneg
        go_wp2_with fail
        refine (ih (h1.below b03) f3r (hdr.below b03) HIM2.out (by rw [HN.out]; omega) HLE.out (by rw [HN.out]; omega)).mono ?_
        rintro e w4 ⟨r4, rfl, f4, b4⟩
        rw [← HR2.out] at f4
        go_wp2_with fail
        go_ret
        exact ⟨_, rfl, f4.mono (fun b hb => ⟨Nat.le_trans b03.size hb.1, hb.2⟩), Keeps.step b03 b4⟩
      · rw [if_neg hneg] at hR2
        have HIM2 := Lib.hid (HIM.out.step hc (by omega) hiL)
        have HR2 := Lib.hid hR2
        have i5 : ¬ (X.length : Int) < (U.length : Int) := by have := HLT.out.2 (by omega); omega
        clear hR2 hneg
        go_wp2_with fail
        refine (ih (h1.below b03) f3r (hdr.below b03) HIM2.out (by rw [HN.out]; omega) HLE.out (by rw [HN.out]; omega)).mono ?_
        rintro e w4 ⟨r4, rfl, f4, b4⟩
        have b04 := Keeps.step b03 b4
        go_wp2_with fail
        refine (shiftSpec f4.reads 1 (by decide) (by have := HL1.out; omega)).mono ?_
        rintro e w5 ⟨r5, rfl, f5, b5⟩
        have b05 := Keeps.step b04 b5
        clear f4 f3r
        have h22 : RI S1 w5 (.slice a2 U.length c2) (nf c 30 mu) := (congrArg (RI S1 w5 (.slice a2 U.length c2)) HU.out).mpr (h2.below b05)
        go_wp2_with fail
        refine (ih (h1.below b05) h22 (hdr.below b05) HIM.out (by rw [HN.out]; omega) HLE.out (by rw [HN.out]; omega)).mono ?_
        rintro e w6 ⟨r6, rfl, f6, b6⟩
        have b06 := Keeps.step b05 b6
        clear h22
        go_wp2_with fail
        refine (shiftSpec f6.reads 1 (by decide) (by have := HL2.out; omega)).mono ?_
        rintro e w7 ⟨r7, rfl, f7, b7⟩
        have b07 := Keeps.step b06 b7
        go_wp2_with fail
        refine (subSpec f7.reads (f6.reads.below b7) (shiftP_in (rS_in c v mu)) (by have := HL2.out; have := shiftP_len (rS c mu v); omega) (by have := HL2.out; omega)).mono ?_
        rintro e w8 ⟨r8, rfl, f8, b8⟩
        have b08 := Keeps.step b07 b8
        go_wp2_with fail
        refine (addSpec (f5.reads.below (Keeps.step b6 (Keeps.step b7 b8))) f8.reads (shiftP_in (rS_in c v _)) (subP_in _ _) (by have := HL1.out; have := shiftP_len (rS c (refl c i mu) v); omega) (by have := HL2.out; have := shiftP_len (rS c mu v); have := subP_le (shiftP (rS c mu v) 1) (rS c mu v); omega)).mono ?_
        rintro e w9 ⟨r9, rfl, f9, b9⟩
        have b09 := Keeps.step b08 b9
        rw [← HR2.out] at f9
        go_wp2_with fail
        go_ret
        exact ⟨_, rfl, f9.mono (fun b hb => ⟨Nat.le_trans b08.size hb.1, hb.2⟩), b09⟩

theorem rP_all {c : List (List Int)} (hc : CartanP c) (hl : total c ≤ 16777216) : ∀ v, RP c v
  | [] => rP_nil hc hl
  | _ :: v => rP_cons hc hl (rP_all hc hl v)
end Go.Proofs.YtipjomdldjbenaaGreat

/-! R-polynomials by the program: the recursion that remembers. Condition: lengths together at most 27. -/
namespace Go.Proofs.YtipjomdldjbenaaGreat
open Go.RowKit
set_option maxRecDepth 20000

theorem Im.ini {c : List (List Int)} (hc : CartanP c) {mu : List Int} {m : Nat} (h : Im c mu m) (hm : m ≤ 30) : InI mu := by
  obtain ⟨hl, w, hw, hwl, hn⟩ := h
  intro x hx
  obtain ⟨k, hk, rfl⟩ := num_mem hx
  have hb := aW_bound hc.car hw k (by omega)
  rw [hn k (by omega)]
  rw [hwl] at hb
  have := pow_small hm
  omega

def AIm (c : List (List Int)) (a b : List Int) : Prop := (∃ m, m ≤ 28 ∧ Im c a m) ∧ ∃ m, m ≤ 28 ∧ Im c b m
abbrev Nm (mb : Nat) : Nat → Prop := fun g => g ≠ mb
abbrev RMemo (c : List (List Int)) (mb k : Nat) (w : World) : Prop := Memo (AIm c) (fun a b => rI c a (nf c 30 b)) c.length mb k w
theorem Nm.keepI {mb : Nat} {w w' : World} {v : Value} {l : List Int} (h : RI (Nm mb) w v l) (hg : w.grownBy w' (some mb)) : RI (Nm mb) w' v l := h.keep fun b hb hl => hg.block b hl (by simpa using hb)
theorem Nm.keepII {mb : Nat} {w w' : World} {v : Value} {l : List (List Int)} (h : RII (Nm mb) w v l) (hg : w.grownBy w' (some mb)) : RII (Nm mb) w' v l := h.keep fun b hb hl => hg.block b hl (by simpa using hb)
theorem Nm.new {mb : Nat} {w w' : World} {v : Value} {l : List Int} (h : FI (New w w') w' v l) (hlt : mb < w.heap.size) : RI (Nm mb) w' v l := RL.mono h.reads (fun b hb e => by have := hb.1; omega) (fun _ _ h => h)
theorem grown_of {mb : Nat} {w w' : World} (h : Below w.heap.size w w') : w.grownBy w' (some mb) := ⟨h.os, h.tape, h.output, h.size, fun i hi _ => h.block i hi⟩
theorem grown_tr {mb : Nat} {a b c : World} (h : a.grownBy b (some mb)) (k : b.grownBy c (some mb)) : a.grownBy c (some mb) :=
  ⟨k.os.trans h.os, k.tape.trans h.tape, k.output.trans h.output, Nat.le_trans h.size k.size, fun i hi hn => (k.block i (Nat.lt_of_lt_of_le hi h.size) hn).trans (h.block i hi hn)⟩

theorem keepc {mb : Nat} {w w' : World} (hg : w.grownBy w' (some mb)) {b o : Nat} {v : Value} (h : w.cell? ⟨b, o, none⟩ = some v) (hb : b ≠ mb) : w'.cell? ⟨b, o, none⟩ = some v := hg.cell h (by simpa using hb)
theorem Nm.of {mb : Nat} {W w : World} {v : Value} {l : List Int} (h : FI (New W w) w v l) (hlt : mb < W.heap.size) : RI (Nm mb) w v l := RL.mono h.reads (fun b hb e => by have := hb.1; omega) (fun _ _ h => h)
theorem rI_nil (c : List (List Int)) (mu : List Int) : rI c mu [] = if firstN mu = none then [1] else [] := rfl
theorem rI_cons (c : List (List Int)) (mu v : List Int) (i : Nat) : rI c mu ((i : Int) :: v) = if num mu i < 0 then rI c (refl c i mu) v else addP (shI (rI c (refl c i mu) v)) (subP (shI (rI c mu v)) (rI c mu v)) := rfl
theorem pow_le27 {n : Nat} : 1 ≤ 2 ^ n := Nat.one_le_two_pow

def PolN (c : List (List Int)) (n : Nat) : Prop := ∀ {x y z : Value} {mu nu : List Int} {m m' mb k : Nat} {w : World}, RII (Nm mb) w x c → RI (Nm mb) w y mu → RI (Nm mb) w z nu → Im c mu m → Im c nu m' → (nf c 30 nu).length = n → m + n ≤ 27 → m' ≤ 28 →
  RMemo c mb k w → k + 2 ^ (n + 1) ≤ 1048576 →
  Calls Tryz.prog 45 #[.agg #[x, .map (some mb)], y, z] w fun e w' => ∃ r k', e = .returned r ∧ RI (Nm mb) w' r (rI c mu (nf c 30 nu)) ∧ w.grownBy w' (some mb) ∧ RMemo c mb k' w' ∧ k' + 1 ≤ k + 2 ^ (n + 1)

set_option maxHeartbeats 4000000 in
theorem polN_step {c : List (List Int)} (hc : CartanP c) {n : Nat} (ih : ∀ j, n = j + 1 → PolN c j) : PolN c n := by
  intro x y z mu nu m m' mb k w h1 h2 h3 him him' hnf hm hm' hM hk
  obtain ⟨a1, c1, rfl⟩ := h1.form
  obtain ⟨a2, c2, rfl⟩ := h2.form
  obtain ⟨a3, c3, rfl⟩ := h3.form
  have hml : mu.length = c.length := him.1
  have hnl : nu.length = c.length := him'.1
  have hc4 : c.length ≤ 4 := hc.le
  have HA := Lib.hid (show Adm (AIm c) c.length mu nu from ⟨hml, hnl, him.ini hc (by omega), him'.ini hc (by omega), ⟨m, by omega, him⟩, m', hm', him'⟩)
  have hm4 : mu.length ≤ 4 := by omega
  have hn4 : nu.length ≤ 4 := by omega
  have HML := Lib.hid hml
  have HNL := Lib.hid hnl
  have HC4 := Lib.hid hc4
  have HNF := Lib.hid hnf
  have HIM := Lib.hid him
  have HIM' := Lib.hid him'
  have HSQ := Lib.hid hc.sq
  have HK := Lib.hid hk
  have HP : Hid (1 ≤ 2 ^ n) := Lib.hid pow_le27
  have HG : Hid (∀ (w' : World) (r : Value) (k' : Nat), RI (Nm mb) w' r (rI c mu (nf c 30 nu)) → w.grownBy w' (some mb) → RMemo c mb k' w' → k' + 1 ≤ k + 2 ^ (n + 1) → ∃ r' k', r = r' ∧ RI (Nm mb) w' r' (rI c mu (nf c 30 nu)) ∧ w.grownBy w' (some mb) ∧ RMemo c mb k' w' ∧ k' + 1 ≤ k + 2 ^ (n + 1)) := Lib.hid (fun w' r k' a b c d => ⟨r, k', rfl, a, b, c, d⟩)
  clear hml hnl hnf him him' hk
  have hlt := hM.lt
  go_enter Tryz.func45, Tryz.ntmps45
  go_wp2_with fail
  generalize hN : w.heap.size = N at *
  have b0 : Below N w (w.alloc (Obj.cells #[Value.slice a1 c.length c1, Value.map (some mb)] 58)) := (Below.refl _ _).alloc (by omega) _
  have x0 : (w.alloc (Obj.cells #[Value.slice a1 c.length c1, Value.map (some mb)] 58)).cell? ⟨N, 0, none⟩ = some (Value.slice a1 c.length c1) := by subst hN; go_simp
  have x1 : (w.alloc (Obj.cells #[Value.slice a1 c.length c1, Value.map (some mb)] 58)).cell? ⟨N, 1, none⟩ = some (.map (some mb)) := by subst hN; go_simp
  have hs0 : (w.alloc (Obj.cells #[Value.slice a1 c.length c1, Value.map (some mb)] 58)).heap.size = N + 1 := by subst hN; simp
  generalize w.alloc (Obj.cells #[Value.slice a1 c.length c1, Value.map (some mb)] 58) = w0 at *
  have bW : ∀ {w' : World}, Below N w w' → Below w.heap.size w w' := fun h => by rw [hN]; exact h
  have HN := Lib.hid hN
  clear hN
  refine (vectorOfImpl (h2.below (bW b0)) hm4).mono ?_
  rintro e w1 ⟨rfl, b1⟩
  unfold vec
  go_wp2_with fail
  have b01 : Below N w w1 := b0.trans (b1.mono (by omega))
  refine (vectorOfImpl (h3.below (bW b01)) hn4).mono ?_
  rintro e w2 ⟨rfl, b2⟩
  unfold vec
  have b02' : Below (N + 1) w0 w2 := by rw [← hs0]; exact Keeps.step b1 b2
  have b02 : Below N w w2 := b0.trans (b02'.mono (by omega))
  have x0' := (b02'.cell (p := ⟨N, 0, none⟩) (Nat.lt_succ_self _)).trans x0
  have x1' := (b02'.cell (p := ⟨N, 1, none⟩) (Nat.lt_succ_self _)).trans x1
  have hn2 : N + 1 ≤ w2.heap.size := by rw [← hs0]; exact b02'.size
  clear x0 x1 hs0 b0 b1 b2 b01 b02'
  have bb : Below w2.heap.size w2 (w2.alloc (Obj.cells #[.int .i64 (num mu 0), .int .i64 (num mu 1), .int .i64 (num mu 2), .int .i64 (num mu 3), .int .i64 (num nu 0), .int .i64 (num nu 1), .int .i64 (num nu 2), .int .i64 (num nu 3)] 75)) := (Below.refl _ _).alloc (Nat.le_refl _) _
  have x0 := cell_alloc x0' (Obj.cells #[.int .i64 (num mu 0), .int .i64 (num mu 1), .int .i64 (num mu 2), .int .i64 (num mu 3), .int .i64 (num nu 0), .int .i64 (num nu 1), .int .i64 (num nu 2), .int .i64 (num nu 3)] 75)
  have x1 := cell_alloc x1' (Obj.cells #[.int .i64 (num mu 0), .int .i64 (num mu 1), .int .i64 (num mu 2), .int .i64 (num mu 3), .int .i64 (num nu 0), .int .i64 (num nu 1), .int .i64 (num nu 2), .int .i64 (num nu 3)] 75)
  clear x0' x1'
  have hM2 : RMemo c mb k (w2.alloc (Obj.cells #[.int .i64 (num mu 0), .int .i64 (num mu 1), .int .i64 (num mu 2), .int .i64 (num mu 3), .int .i64 (num nu 0), .int .i64 (num nu 1), .int .i64 (num nu 2), .int .i64 (num nu 3)] 75)) := ((hM.below (bW b02)).below bb)
  go_wp2_with (at_lookup; refine wpList_memo rfl _ _ rfl rfl hM2 HA.out rfl ?_ ?_)
  · intro v hv
    go_wp2_with fail
    go_ret
    exact ⟨_, _, rfl, hv, grown_of (Keeps.step (bW b02) bb), hM2, by have := HP.out; rw [Nat.pow_succ]; omega⟩
  · intro v
    have k0 : (w2.alloc (Obj.cells #[.int .i64 (num mu 0), .int .i64 (num mu 1), .int .i64 (num mu 2), .int .i64 (num mu 3), .int .i64 (num nu 0), .int .i64 (num nu 1), .int .i64 (num nu 2), .int .i64 (num nu 3)] 75)).cell? ⟨w2.heap.size, 0, none⟩ = some (.int .i64 (num mu 0)) := by go_simp
    have k1 : (w2.alloc (Obj.cells #[.int .i64 (num mu 0), .int .i64 (num mu 1), .int .i64 (num mu 2), .int .i64 (num mu 3), .int .i64 (num nu 0), .int .i64 (num nu 1), .int .i64 (num nu 2), .int .i64 (num nu 3)] 75)).cell? ⟨w2.heap.size, 1, none⟩ = some (.int .i64 (num mu 1)) := by go_simp
    have k2 : (w2.alloc (Obj.cells #[.int .i64 (num mu 0), .int .i64 (num mu 1), .int .i64 (num mu 2), .int .i64 (num mu 3), .int .i64 (num nu 0), .int .i64 (num nu 1), .int .i64 (num nu 2), .int .i64 (num nu 3)] 75)).cell? ⟨w2.heap.size, 2, none⟩ = some (.int .i64 (num mu 2)) := by go_simp
    have k3 : (w2.alloc (Obj.cells #[.int .i64 (num mu 0), .int .i64 (num mu 1), .int .i64 (num mu 2), .int .i64 (num mu 3), .int .i64 (num nu 0), .int .i64 (num nu 1), .int .i64 (num nu 2), .int .i64 (num nu 3)] 75)).cell? ⟨w2.heap.size, 3, none⟩ = some (.int .i64 (num mu 3)) := by go_simp
    have k4 : (w2.alloc (Obj.cells #[.int .i64 (num mu 0), .int .i64 (num mu 1), .int .i64 (num mu 2), .int .i64 (num mu 3), .int .i64 (num nu 0), .int .i64 (num nu 1), .int .i64 (num nu 2), .int .i64 (num nu 3)] 75)).cell? ⟨w2.heap.size, 4, none⟩ = some (.int .i64 (num nu 0)) := by go_simp
    have k5 : (w2.alloc (Obj.cells #[.int .i64 (num mu 0), .int .i64 (num mu 1), .int .i64 (num mu 2), .int .i64 (num mu 3), .int .i64 (num nu 0), .int .i64 (num nu 1), .int .i64 (num nu 2), .int .i64 (num nu 3)] 75)).cell? ⟨w2.heap.size, 5, none⟩ = some (.int .i64 (num nu 1)) := by go_simp
    have k6 : (w2.alloc (Obj.cells #[.int .i64 (num mu 0), .int .i64 (num mu 1), .int .i64 (num mu 2), .int .i64 (num mu 3), .int .i64 (num nu 0), .int .i64 (num nu 1), .int .i64 (num nu 2), .int .i64 (num nu 3)] 75)).cell? ⟨w2.heap.size, 6, none⟩ = some (.int .i64 (num nu 2)) := by go_simp
    have k7 : (w2.alloc (Obj.cells #[.int .i64 (num mu 0), .int .i64 (num mu 1), .int .i64 (num mu 2), .int .i64 (num mu 3), .int .i64 (num nu 0), .int .i64 (num nu 1), .int .i64 (num nu 2), .int .i64 (num nu 3)] 75)).cell? ⟨w2.heap.size, 7, none⟩ = some (.int .i64 (num nu 3)) := by go_simp
    have b03 : Below N w (w2.alloc (Obj.cells #[.int .i64 (num mu 0), .int .i64 (num mu 1), .int .i64 (num mu 2), .int .i64 (num mu 3), .int .i64 (num nu 0), .int .i64 (num nu 1), .int .i64 (num nu 2), .int .i64 (num nu 3)] 75)) := b02.trans (bb.mono (by omega))
    have hs3 : (w2.alloc (Obj.cells #[.int .i64 (num mu 0), .int .i64 (num mu 1), .int .i64 (num mu 2), .int .i64 (num mu 3), .int .i64 (num nu 0), .int .i64 (num nu 1), .int .i64 (num nu 2), .int .i64 (num nu 3)] 75)).heap.size = w2.heap.size + 1 := by simp
    generalize w2.alloc (Obj.cells #[.int .i64 (num mu 0), .int .i64 (num mu 1), .int .i64 (num mu 2), .int .i64 (num mu 3), .int .i64 (num nu 0), .int .i64 (num nu 1), .int .i64 (num nu 2), .int .i64 (num nu 3)] 75) = w3 at *
    generalize hkb : w2.heap.size = kb at *
    have HNM := Lib.hid (show N ≠ mb by omega)
    have HKM := Lib.hid (show kb ≠ mb by omega)
    have hn3 : N + 1 ≤ w3.heap.size := by omega
    clear hkb bb b02 hM hs3 hn2
    go_wp2_with fail
    obtain ⟨w4, hw4⟩ : ∃ w4, w4 = w3.alloc (.cells #[] 3) := ⟨_, rfl⟩
    obtain ⟨f4, b4⟩ := fresh_of (Below.refl _ w3) hw4
    rw [← hw4]
    clear hw4
    have g4 := grown_of (mb := mb) b4
    have b04 : Below N w w4 := b03.trans (b4.mono (by omega))
    have hn4' : N + 1 ≤ w4.heap.size := Nat.le_trans hn3 b4.size
    refine (firstDescentImpl (h3.below (bW b04)) (by omega)).mono ?_
    rintro e w5 ⟨rfl, rfl⟩
    cases eN : firstN nu with
    | none =>
      have e2 : fd nu = -1 := by unfold fd; rw [eN]
      have eNF := nf_end (c := c) eN
      rw [e2]
      clear e2
      go_wp2_with fail
      refine (firstDescentImpl (h2.below (bW b04)) (by omega)).mono ?_
      rintro e w6 ⟨rfl, rfl⟩
      cases eM : firstN mu with
      | none =>
        have e2 : fd mu = -1 := by unfold fd; rw [eM]
        have HR : Hid ([1] = rI c mu (nf c 30 nu)) := Lib.hid (by rw [eNF, rI_nil, if_pos eM])
        rw [e2]
        clear e2 eNF eN eM
        obtain ⟨f7, b7⟩ := fresh_one (y := 1) (Below.refl _ w6) rfl
        have g7 := grown_tr g4 (grown_of (mb := mb) b7)
        have v7 := Nm.of f7 (show mb < w6.heap.size by omega)
        rw [HR.out] at v7
        have M7 := (hM2.below b4).below b7
        have x1e := keepc g7 x1 HNM.out
        have k0e := keepc g7 k0 HKM.out
        have k1e := keepc g7 k1 HKM.out
        have k2e := keepc g7 k2 HKM.out
        have k3e := keepc g7 k3 HKM.out
        have k4e := keepc g7 k4 HKM.out
        have k5e := keepc g7 k5 HKM.out
        have k6e := keepc g7 k6 HKM.out
        have k7e := keepc g7 k7 HKM.out
        go_wp2_with (at_mapUpdate; refine wpList_memoPut rfl _ _ _ rfl rfl M7 HC4.out ?hkk HA.out rfl rfl v7 ?_)
        case hkk => have := HK.out; have := HP.out; rw [Nat.pow_succ] at *; unfold maxLen; omega
        intro w99 hM99 hg99
        go_wp2_with fail
        go_ret
        exact ⟨_, _, rfl, Nm.keepI v7 hg99, grown_tr (grown_of (bW b03)) (grown_tr g7 hg99), hM99, by have := HP.out; rw [Nat.pow_succ]; omega⟩
      | some i =>
        have e2 : fd mu = (i : Int) := by unfold fd; rw [eM]
        have HR : Hid ([] = rI c mu (nf c 30 nu)) := Lib.hid (by rw [eNF, rI_nil, if_neg (by rw [eM]; simp)])
        have i1 : ¬ (i : Int) < 0 := by omega
        rw [e2]
        clear e2 eNF eN eM
        have v7 := Nm.of f4 (show mb < w3.heap.size by omega)
        rw [HR.out] at v7
        have M7 := hM2.below b4
        have x1e := keepc g4 x1 HNM.out
        have k0e := keepc g4 k0 HKM.out
        have k1e := keepc g4 k1 HKM.out
        have k2e := keepc g4 k2 HKM.out
        have k3e := keepc g4 k3 HKM.out
        have k4e := keepc g4 k4 HKM.out
        have k5e := keepc g4 k5 HKM.out
        have k6e := keepc g4 k6 HKM.out
        have k7e := keepc g4 k7 HKM.out
        go_wp2_with (at_mapUpdate; refine wpList_memoPut rfl _ _ _ rfl rfl M7 HC4.out ?hkk HA.out rfl rfl v7 ?_)
        case hkk => have := HK.out; have := HP.out; rw [Nat.pow_succ] at *; unfold maxLen; omega
        intro w99 hM99 hg99
        go_wp2_with fail
        go_ret
        exact ⟨_, _, rfl, Nm.keepI v7 hg99, grown_tr (grown_of (bW b03)) (grown_tr g4 hg99), hM99, by have := HP.out; rw [Nat.pow_succ]; omega⟩
    | some i =>
      have e2 : fd nu = (i : Int) := by unfold fd; rw [eN]
      have hi : i < c.length := by have := firstN_lt eN; have := HNL.out; omega
      obtain ⟨m2, hm2, him2, hnf2⟩ := nf_turn hc HIM'.out (by omega) eN
      have hlen2 := HNF.out
      rw [hnf2, List.length_cons] at hlen2
      have HI2 := Lib.hid him2
      have HNF2 := Lib.hid hnf2
      obtain ⟨j, hj⟩ : ∃ j, (nf c 30 (refl c i nu)).length = j := ⟨_, rfl⟩
      rw [hj] at hlen2
      have HJ : Hid (PolN c j) := Lib.hid (ih j hlen2.symm)
      have HJL := Lib.hid hj
      have HPW : Hid (2 ^ (n + 1) = 2 * 2 ^ (j + 1)) := Lib.hid (by rw [← hlen2, Nat.pow_succ]; omega)
      generalize hPW : 2 ^ (j + 1) = P at *
      have HPW2 := Lib.hid hPW
      have HNJ := Lib.hid hlen2
      have i1 : ¬ (i : Int) < 0 := by omega
      have hp1 : 1 ≤ P := by rw [← hPW]; exact pow_le27
      rw [e2]
      clear e2 eN him2 hnf2 hlen2 hPW hj
      obtain ⟨f5, b5⟩ := fresh_of (w := w5) (Below.refl _ w5) rfl
      have h25 := h2.below (Keeps.step (bW b04) b5)
      go_wp2_with (at_builtin; go_must (refine wpList_app (W := w5) rfl _ _ rfl rfl f5 b5 rfl h25 ?_ ?_))
      · simp; omega
      · intro v6 w6 f6 b6 _
        clear f5 b5 h25
        obtain ⟨f7, b7⟩ := fresh_of (w := w6) (Below.refl _ w6) rfl
        have h37 := h3.below (Keeps.step (Keeps.step (bW b04) b6) b7)
        go_wp2_with (at_builtin; go_must (refine wpList_app (W := w6) rfl _ _ rfl rfl f7 b7 rfl h37 ?_ ?_))
        · simp; omega
        · intro v8 w8 f8 b8 _
          clear f7 b7 h37
          have b58 := Keeps.step b6 b8
          have g8 := grown_tr g4 (grown_of (mb := mb) b58)
          have b08 := Keeps.step (bW b04) b58
          have x08 := keepc g8 x0 HNM.out
          have x18 := keepc g8 x1 HNM.out
          have hs5 : w5.heap.size ≤ w6.heap.size := b6.size
          have hs6 : w6.heap.size ≤ w8.heap.size := b8.size
          have f6' := f6.below b8
          have hcO : RII (Bt 0 w.heap.size) w8 (Value.slice a1 c.length c1) c := h1.old.below b08
          have HD1 : ∀ b, Bt 0 w.heap.size b → ¬ New w5 w6 b := fun b hb hb' => by have := hb.2; have := hb'.1; have := HN.out; omega
          have HD2 : ∀ b, Bt 0 w.heap.size b → ¬ New w6 w8 b := fun b hb hb' => by have := hb.2; have := hb'.1; have := HN.out; omega
          have HD3 : ∀ b, New w6 w8 b → ¬ New w5 w6 b := fun b hb hb' => by have := hb.1; have := hb'.2; omega
          clear f6
          go_wp2_with fail
          refine (reflectedImpl hcO f6' HD1 i hi HSQ.out HML.out (by omega)).mono ?_
          rintro e w9 ⟨rfl, f9, o9⟩
          have b89 : Below w5.heap.size w8 w9 := o9.below (fun b hb => hb.1)
          have b59 := b58.trans b89
          have g9 := grown_tr g4 (grown_of (mb := mb) b59)
          have x09 := keepc g9 x0 HNM.out
          have hcO9 := hcO.only o9 HD1
          have f8' := f8.only o9 HD3
          clear f6' x08 x18
          go_wp2_with fail
          refine (reflectedImpl hcO9 f8' HD2 i hi HSQ.out HNL.out (by omega)).mono ?_
          rintro e w10 ⟨rfl, f10, o10⟩
          have b910 : Below w5.heap.size w9 w10 := o10.below (fun b hb => by have := hb.1; omega)
          have b510 := b59.trans b910
          have g10 := grown_tr g4 (grown_of (mb := mb) b510)
          have f9' := f9.only o10 (fun b hb hb' => HD3 b hb' hb)
          have x010 := keepc g10 x0 HNM.out
          have x110 := keepc g10 x1 HNM.out
          have b010 := Keeps.step (bW b04) b510
          have su : RI (Nm mb) w10 v6 (refl c i mu) := Nm.of (FI.mono f9' (S' := New w5 w10) (fun b hb => ⟨hb.1, by have := hb.2; have := b89.size; have := b910.size; omega⟩)) (by omega)
          have sv : RI (Nm mb) w10 v8 (refl c i nu) := Nm.of (FI.mono f10 (S' := New w5 w10) (fun b hb => ⟨by have := hb.1; omega, by have := hb.2; have := b89.size; have := b910.size; omega⟩)) (by omega)
          have M10 : RMemo c mb k w10 := (hM2.below b4).below b510
          clear f9 f9' f10 f8 f8' hcO hcO9 o9 o10 HD1 HD2 HD3 b89 b910 b58 b59 g8 g9 x09 b6 b8
          have hib : i < mu.length := by have := HML.out; omega
          obtain ⟨b11, o11, q, e11, hc11, hq11⟩ := RI.at (h2.below b010) (j := i) hib
          subst e11
          have hq : num mu i = q := num_at hq11.out
          by_cases hneg : q < 0
          · have HR : Hid (rI c (refl c i mu) (nf c 30 (refl c i nu)) = rI c mu (nf c 30 nu)) := Lib.hid (by rw [HNF2.out, rI_cons, if_pos (by omega)])
            obtain ⟨m3, hm3, him3⟩ := HIM.out.back hc (by omega) (i := i) (x := q) hq11.out hneg
            have HI3 := Lib.hid him3
            clear him3 hq hq11
            go_wp2_with fail
            refine (HJ.out (h1.below b010) su sv HI3.out HI2.out HJL.out (by have := HNJ.out; omega) (by omega) M10 (by have := HK.out; have := HPW.out; have := HPW2.out; omega)).mono ?_
            rintro e w11 ⟨r11, k11, rfl, v11, g11, M11, hk11⟩
            rw [HR.out] at v11
            have hk11 := Lib.hid hk11
            have G11 := grown_tr g10 g11
            have x1e := keepc G11 x1 HNM.out
            have k0e := keepc G11 k0 HKM.out
            have k1e := keepc G11 k1 HKM.out
            have k2e := keepc G11 k2 HKM.out
            have k3e := keepc G11 k3 HKM.out
            have k4e := keepc G11 k4 HKM.out
            have k5e := keepc G11 k5 HKM.out
            have k6e := keepc G11 k6 HKM.out
            have k7e := keepc G11 k7 HKM.out
            go_wp2_with (at_mapUpdate; refine wpList_memoPut rfl _ _ _ rfl rfl M11 HC4.out ?hkk HA.out rfl rfl v11 ?_)
            case hkk => have := HK.out; have := HPW.out; have := HPW2.out; have := hk11.out; unfold maxLen; omega
            intro w99 hM99 hg99
            go_wp2_with fail
            go_ret
            exact ⟨_, _, rfl, Nm.keepI v11 hg99, grown_tr (grown_of (bW b03)) (grown_tr G11 hg99), hM99, by have := HPW.out; have := HPW2.out; have := hk11.out; omega⟩
          · have HR : Hid (addP (shI (rI c (refl c i mu) (nf c 30 (refl c i nu)))) (subP (shI (rI c mu (nf c 30 (refl c i nu)))) (rI c mu (nf c 30 (refl c i nu)))) = rI c mu (nf c 30 nu)) := Lib.hid (by rw [HNF2.out, rI_cons, if_neg (by omega)])
            have HI3 := Lib.hid (HIM.out.step hc (by omega) hi)
            have L1 := Lib.hid (rI_len c (nf c 30 (refl c i nu)) (refl c i mu))
            have L2 := Lib.hid (rI_len c (nf c 30 (refl c i nu)) mu)
            have hJ30 : Hid (j ≤ 30) := Lib.hid (by have := HNJ.out; omega)
            clear hq hq11
            go_wp2_with fail
            refine (HJ.out (h1.below b010) (h2.below b010) sv HIM.out HI2.out HJL.out (by have := HNJ.out; omega) (by omega) M10 (by have := HK.out; have := HPW.out; have := HPW2.out; omega)).mono ?_
            rintro e w11 ⟨r11, k11, rfl, v11, g11, M11, hk11⟩
            have hk11 := Lib.hid hk11
            have G11 := grown_tr g10 g11
            have x011 := keepc G11 x0 HNM.out
            have x111 := keepc G11 x1 HNM.out
            clear x010 x110
            go_wp2_with fail
            refine (HJ.out (Nm.keepII (h1.below b010) g11) (Nm.keepI su g11) (Nm.keepI sv g11) HI3.out HI2.out HJL.out (by have := HNJ.out; omega) (by omega) M11 (by have := HK.out; have := HPW.out; have := HPW2.out; have := hk11.out; omega)).mono ?_
            rintro e w12 ⟨r12, k12, rfl, v12, g12, M12, hk12⟩
            have hk12 := Lib.hid hk12
            have G12 := grown_tr G11 g12
            have v11 := Nm.keepI v11 g12
            have hl12 : mb < w12.heap.size := M12.lt
            clear x011 x111
            go_wp2_with fail
            refine (shiftImpl v12 (by have := L1.out; have := HJL.out; have := hJ30.out; omega)).mono ?_
            rintro e w13 ⟨r13, rfl, f13, b13⟩
            go_wp2_with fail
            refine (shiftImpl (v11.below b13) (by have := L2.out; have := HJL.out; have := hJ30.out; omega)).mono ?_
            rintro e w14 ⟨r14, rfl, f14, b14⟩
            have b124 := Keeps.step b13 b14
            go_wp2_with fail
            refine (subImpl f14.reads (v11.below b124) (shI_in (rI_in c _ _)) (by have := L2.out; have := HJL.out; have := hJ30.out; have := shI_len (rI c mu (nf c 30 (refl c i nu))); omega) (by have := L2.out; have := HJL.out; have := hJ30.out; omega)).mono ?_
            rintro e w15 ⟨r15, rfl, f15, b15⟩
            have b125 := Keeps.step b124 b15
            go_wp2_with fail
            refine (addImpl (f13.reads.below (Keeps.step b14 b15)) f15.reads (shI_in (rI_in c _ _)) (by have := L1.out; have := HJL.out; have := hJ30.out; have := shI_len (rI c (refl c i mu) (nf c 30 (refl c i nu))); omega) (by have := L2.out; have := HJL.out; have := hJ30.out; have := shI_len (rI c mu (nf c 30 (refl c i nu))); have := subP_le (shI (rI c mu (nf c 30 (refl c i nu)))) (rI c mu (nf c 30 (refl c i nu))); omega)).mono ?_
            rintro e w16 ⟨r16, rfl, f16, b16⟩
            rw [HR.out] at f16
            have b126 := Keeps.step b125 b16
            have v16 := Nm.of f16 (show mb < w15.heap.size by have := b125.size; omega)
            have G16 := grown_tr G12 (grown_of (mb := mb) b126)
            have M16 := M12.below b126
            have x1e := keepc G16 x1 HNM.out
            have k0e := keepc G16 k0 HKM.out
            have k1e := keepc G16 k1 HKM.out
            have k2e := keepc G16 k2 HKM.out
            have k3e := keepc G16 k3 HKM.out
            have k4e := keepc G16 k4 HKM.out
            have k5e := keepc G16 k5 HKM.out
            have k6e := keepc G16 k6 HKM.out
            have k7e := keepc G16 k7 HKM.out
            go_wp2_with (at_mapUpdate; refine wpList_memoPut rfl _ _ _ rfl rfl M16 HC4.out ?hkk HA.out rfl rfl v16 ?_)
            case hkk => have := HK.out; have := HPW.out; have := HPW2.out; have := hk11.out; have := hk12.out; unfold maxLen; omega
            intro w99 hM99 hg99
            go_wp2_with fail
            go_ret
            exact ⟨_, _, rfl, Nm.keepI v16 hg99, grown_tr (grown_of (bW b03)) (grown_tr G16 hg99), hM99, by have := HPW.out; have := HPW2.out; have := hk11.out; have := hk12.out; omega⟩

theorem polN_all {c : List (List Int)} (hc : CartanP c) : ∀ n, PolN c n
  | 0 => polN_step hc (fun j h => by omega)
  | n + 1 => polN_step hc (fun j h => by cases h; exact polN_all hc n)
end Go.Proofs.YtipjomdldjbenaaGreat

/-! R-polynomials and numbers of points, by the program and by the reference. Condition: sizes up to 2^24. -/
namespace Go.Proofs.YtipjomdldjbenaaGreat
open Go.RowKit
set_option maxRecDepth 20000

def rpOk (c : List (List Int)) (u v : List Int) : Bool := (isWd c u && isWd c v) && decide ((normL c v).length ≤ 10)
def rp (c : List (List Int)) (u v : List Int) : List Int := if rpOk c u v then rI c (image c u) (normL c v) else []
theorem rp_le (c : List (List Int)) (u v : List Int) : (rp c u v).length ≤ 11 := by
  unfold rp
  cases h : rpOk c u v
  · simp
  · have := rI_len c (normL c v) (image c u)
    unfold rpOk at h
    simp only [Bool.and_eq_true, decide_eq_true_eq] at h
    simp
    omega

set_option maxHeartbeats 1000000 in
theorem lengthOfImpl {S S' : Nat → Prop} {u v : Value} {c : List (List Int)} {l : List Int} {w : World} (h : RII S w u c) (h' : RI S' w v l) (hc : CartanP c) (hle : Lets c.length l) (hl' : l.length ≤ 30) :
    Calls Tryz.prog 42 #[u, v] w fun e w' => e = .returned (.int .i64 (normL c l).length) ∧ Below w.heap.size w w' := by
  go_enter Tryz.func42, Tryz.ntmps42
  go_wp2_with fail
  refine (reducedImpl h h' hc hle hl').mono ?_
  rintro e w1 ⟨r1, rfl, f1, b1⟩
  obtain ⟨a1, c1, rfl⟩ := f1.reads.form
  go_wp2_with fail
  go_ret
  exact ⟨rfl, b1⟩

set_option maxHeartbeats 1000000 in
theorem lengthOfSpec {S S' : Nat → Prop} {u v : Value} {c : List (List Int)} {l : List Int} {w : World} (h : RII S w u c) (h' : RI S' w v l) (hw : isWd c l = true) (hl : total c ≤ 16777216) (hl' : l.length ≤ 16777216) :
    Calls Tryz.prog 18 #[u, v] w fun e w' => e = .returned (.int .i64 (normL c l).length) ∧ Below w.heap.size w w' := by
  have HN : Hid (nform c l = normL c l) := Lib.hid (by unfold nform; rw [if_pos hw])
  have HW := Lib.hid hw
  clear hw
  go_enter Tryz.func18, Tryz.ntmps18
  go_wp2_with fail
  refine (normalFormSpec h h' hl hl').mono ?_
  rintro e w1 ⟨r1, rfl, f1, b1⟩
  rw [HN.out] at f1
  rw [HW.out]
  obtain ⟨a1, c1, rfl⟩ := f1.reads.form
  go_wp2_with fail
  go_ret
  exact ⟨rfl, b1⟩

set_option maxHeartbeats 1000000 in
theorem newRatiosImpl {c : List (List Int)} {x : Value} {w : World} {cl : List (List Int)} {S : Nat → Prop} (h : RII S w x cl) :
    Calls Tryz.prog 43 #[x] w fun e w' => ∃ mb, e = .returned (.agg #[x, .map (some mb)]) ∧ w.heap.size ≤ mb ∧ RMemo c mb 0 w' ∧ Below w.heap.size w w' := by
  obtain ⟨a, cap, rfl⟩ := h.form
  have hmm := @run_makeMap Tryz.prog
  go_enter Tryz.func43, Tryz.ntmps43
  go_wp2_with fail
  have hM := Memo.made (A := AIm c) (F := fun a b => rI c a (nf c 30 b)) (n := c.length) (w.alloc (Obj.cells #[Value.slice a cl.length cap, Value.map (some (w.heap.size + 1))] 58))
  rw [World.size_alloc] at hM
  have x0 : ((w.alloc (Obj.cells #[Value.slice a cl.length cap, Value.map (some (w.heap.size + 1))] 58)).alloc (Obj.map #[] 0)).cell? ⟨w.heap.size, 0, none⟩ = some (Value.slice a cl.length cap) := cell_alloc (by go_simp) _
  have x1 : ((w.alloc (Obj.cells #[Value.slice a cl.length cap, Value.map (some (w.heap.size + 1))] 58)).alloc (Obj.map #[] 0)).cell? ⟨w.heap.size, 1, none⟩ = some (.map (some (w.heap.size + 1))) := cell_alloc (by go_simp) _
  have hb : Below w.heap.size w ((w.alloc (Obj.cells #[Value.slice a cl.length cap, Value.map (some (w.heap.size + 1))] 58)).alloc (Obj.map #[] 0)) := ((Below.refl _ _).alloc (Nat.le_refl _) _).alloc (by simp) _
  generalize (w.alloc (Obj.cells #[Value.slice a cl.length cap, Value.map (some (w.heap.size + 1))] 58)).alloc (Obj.map #[] 0) = w4 at *
  try simp only [Exit.inBlock, Exit.then]
  refine bodyPost_ret (v := .agg #[Value.slice a cl.length cap, Value.map (some (w.heap.size + 1))]) (by simp [results, Tryz.results43, go_sem, x0, x1]) rfl ?_
  exact ⟨_, rfl, Nat.le_succ _, hM, hb⟩

set_option maxHeartbeats 2000000 in
theorem rpolynomialSpec {S S1 S2 : Nat → Prop} {x y z : Value} {c : List (List Int)} {l l' : List Int} {w : World} (h : RII S w x c) (h1 : RI S1 w y l) (h2 : RI S2 w z l') (hl : total c ≤ 16777216) (hl1 : l.length ≤ 16777216) (hl2 : l'.length ≤ 16777216) :
    Calls Tryz.prog 19 #[x, y, z] w fun e w' => ∃ r, e = .returned (.tuple #[r, .bool (rpOk c l l')]) ∧ FI (New w w') w' r (rp c l l') ∧ Below w.heap.size w w' := by
  have R1 : Hid (rpOk c l l' = ((isWd c l && isWd c l') && decide ((normL c l').length ≤ 10))) := Lib.hid rfl
  have R2 : Hid (rp c l l' = if rpOk c l l' then rI c (image c l) (normL c l') else []) := Lib.hid rfl
  have HP := Lib.hid (@isWd_parts c l)
  have HP' := Lib.hid (@isWd_parts c l')
  have HR : Hid (isWd c l = true → isWd c l' = true → (normL c l').length ≤ 10 → rS c (image c l) (normL c l') = rI c (image c l) (normL c l')) := Lib.hid (fun e1 e2 e3 => by
    obtain ⟨p1, p2, p3⟩ := isWd_parts e1
    obtain ⟨q1, q2, q3⟩ := isWd_parts e2
    have hc := isC_iff.1 p1
    exact rS_rI hc _ (image_im hc p3 (by omega)) (by omega) (nfl_lets hc _ (image_im hc q3 (by omega)) (by omega)))
  generalize rp c l l' = res at *
  generalize rpOk c l l' = ok at *
  go_enter Tryz.func19, Tryz.ntmps19
  go_wp2_with fail
  refine (isWordSpec h h1 hl hl1).mono ?_
  rintro e w1 ⟨rfl, hw1⟩
  have b1 := below_quiet hw1
  clear hw1
  cases e1 : isWd c l
  · have E0 : Hid (ok = false) := Lib.hid (by rw [R1.out, e1]; rfl)
    go_wp2_with fail
    obtain ⟨f1, b1⟩ := fresh_of (w := w1) b1 rfl
    go_ret2
    rw [R2.out, E0.out]
    exact ⟨_, rfl, f1, b1⟩
  · have E1 := Lib.hid e1
    clear e1
    go_wp2_with fail
    refine (isWordSpec (h.below b1) (h2.below b1) hl hl2).mono ?_
    rintro e w2 ⟨rfl, hw2⟩
    have b2 := Keeps.step b1 (below_quiet hw2)
    clear hw2
    cases e2 : isWd c l'
    · have E0 : Hid (ok = false) := Lib.hid (by rw [R1.out, e2, Bool.and_false]; rfl)
      go_wp2_with fail
      obtain ⟨f1, b1⟩ := fresh_of (w := w2) b2 rfl
      go_ret2
      rw [R2.out, E0.out]
      exact ⟨_, rfl, f1, b1⟩
    · have E2 := Lib.hid e2
      clear e2
      go_wp2_with fail
      refine (lengthOfSpec (h.below b2) (h2.below b2) E2.out hl hl2).mono ?_
      rintro e w3 ⟨rfl, b3⟩
      have b3 := Keeps.step b2 b3
      by_cases e3 : (normL c l').length ≤ 10
      · have E0 : Hid (ok = true) := Lib.hid (by rw [R1.out, E1.out, E2.out, decide_eq_true e3]; rfl)
        have E3 := Lib.hid e3
        have i1 : ¬ (10 : Int) < ((normL c l').length : Int) := by omega
        clear e3
        go_wp2_with fail
        refine (normalSpec (h.below b3) (h1.below b3) (isC_iff.1 (HP.out E1.out).1) (HP.out E1.out).2.2 hl (by have := (HP.out E1.out).2.1; omega)).mono ?_
        rintro e w4 ⟨r4, rfl, f4, b4⟩
        have b04 := Keeps.step b3 b4
        go_wp2_with fail
        refine (normalSpec (h.below b04) (h2.below b04) (isC_iff.1 (HP.out E1.out).1) (HP'.out E2.out).2.2 hl (by have := (HP'.out E2.out).2.1; omega)).mono ?_
        rintro e w5 ⟨r5, rfl, f5, b5⟩
        have b05 := Keeps.step b04 b5
        have hc := Lib.hid (isC_iff.1 (HP.out E1.out).1)
        have hI := Lib.hid (image_im hc.out (HP.out E1.out).2.2 (by have := (HP.out E1.out).2.1; omega))
        have f4' : RI (New w3 w4) w5 r4 (nf c 30 (image c l)) := f4.reads.below b5
        go_wp2_with fail
        refine (rP_all hc.out hl (normL c l') (h.below b05) f4' f5.reads hI.out (by have := E3.out; have := (HP.out E1.out).2.1; omega) (nfl_lets hc.out _ (image_im hc.out (HP'.out E2.out).2.2 (by have := (HP'.out E2.out).2.1; omega)) (by have := (HP'.out E2.out).2.1; omega)) (by have := E3.out; omega)).mono ?_
        rintro e w6 ⟨r6, rfl, f6, b6⟩
        have b06 := Keeps.step b05 b6
        go_wp2_with fail
        go_ret2
        rw [R2.out, E0.out, if_pos rfl, ← HR.out E1.out E2.out E3.out]
        exact ⟨_, rfl, f6.mono (fun b hb => ⟨Nat.le_trans b05.size hb.1, hb.2⟩), b06⟩
      · have E0 : Hid (ok = false) := Lib.hid (by rw [R1.out, decide_eq_false e3, Bool.and_false])
        have i1 : (10 : Int) < ((normL c l').length : Int) := by omega
        clear e3
        go_wp2_with fail
        obtain ⟨f1, b1⟩ := fresh_of (w := w3) b3 rfl
        go_ret2
        rw [R2.out, E0.out]
        exact ⟨_, rfl, f1, b1⟩

def rich (c : List (List Int)) (u v : List Int) (q : Int) : Int := if rpOk c u v && inR q 2 9 then evalP q (rp c u v) else -1

end Go.Proofs.YtipjomdldjbenaaGreat
