/- R-polynomials by the reference (l22R). -/
import Derived.Test.YtipjomdldjbenaaJRbel
import Derived.Test.YtipjomdldjbenaaJGRp
namespace Go.Proofs.Ytipjomdldjbenaa
open Go.RowKit
set_option maxRecDepth 20000

theorem belP_all {c : List (List Int)} (hc : CartanP c) (hl : total c ≤ 16777216) : ∀ v, BelP c v
  | [] => belP_nil c
  | _ :: v => belP_cons hc hl (belP_all hc hl v)

def RP (c : List (List Int)) (v : List Int) : Prop := ∀ {S S1 S2 : Nat → Prop} {x y z : Value} {mu : List Int} {m : Nat} {w : World}, RII S w x c → RI S1 w y (nf c 30 mu) → RI S2 w z v → Im c mu m → m + v.length ≤ 27 → Lets c.length v → v.length ≤ 15 →
  Calls Try.prog 30 #[x, y, z] w fun e w' => ∃ r, e = .returned r ∧ FI (New w w') w' r (rS c mu v) ∧ Below w.heap.size w w'

set_option maxHeartbeats 1000000 in
theorem rP_nil {c : List (List Int)} (hc : CartanP c) (hl : total c ≤ 16777216) : RP c [] := by
  intro S S1 S2 x y z mu m w h1 h2 h3 him hm hle hv
  have hbel := belP_all hc hl [] h1 h2 h3 him (by omega) hle hv
  have hR : rS c mu [] = if bel c mu [] then [1] else [] := rfl
  obtain ⟨a2, c2, rfl⟩ := h2.form
  obtain ⟨a3, c3, rfl⟩ := h3.form
  simp only [List.length_nil] at *
  generalize (nf c 30 mu).length = L at *
  cases hB : bel c mu []
  · rw [hB] at hbel hR
    rw [if_neg (by simp)] at hR
    rw [hR]
    clear hR hB
    go_enter Try.func30, Try.ntmps30
    go_wp2_with fail
    refine hbel.mono ?_
    rintro e w1 ⟨rfl, b1⟩
    go_wp2_with fail
    obtain ⟨w2, hw2⟩ : ∃ w2, w2 = w1.alloc (.cells #[] 3) := ⟨_, rfl⟩
    obtain ⟨f2, b2⟩ := fresh_of b1 hw2
    rw [← hw2]
    clear hw2
    go_ret
    exact ⟨_, rfl, f2, b2⟩
  · rw [hB] at hbel hR
    rw [if_pos rfl] at hR
    rw [hR]
    clear hR hB
    go_enter Try.func30, Try.ntmps30
    go_wp2_with fail
    refine hbel.mono ?_
    rintro e w1 ⟨rfl, b1⟩
    go_wp2_with fail
    obtain ⟨w2, hw2⟩ : ∃ w2, w2 = w1.alloc (.cells #[.int .i64 1] 3) := ⟨_, rfl⟩
    obtain ⟨f2, b2⟩ := fresh_one b1 hw2
    rw [← hw2]
    clear hw2
    go_ret
    exact ⟨_, rfl, f2, b2⟩

set_option maxHeartbeats 4000000 in
theorem rP_cons {c : List (List Int)} (hc : CartanP c) (hl : total c ≤ 16777216) {s : Int} {v : List Int} (ih : RP c v) : RP c (s :: v) := by
  intro S S1 S2 x y z mu m w h1 h2 h3 him hm hle hv
  have hs := hle s (by simp)
  have hle' : Lets c.length v := fun y hy => hle y (by simp [hy])
  have hiL : s.toNat < c.length := by omega
  have hul := nfl_le hc him (by omega)
  have hlu := nfl_lets hc m him (by omega)
  have hnc := normL_cons hc him (by omega) s
  have hml : mu.length = c.length := him.1
  have hbel := belP_all hc hl (s :: v) h1 h2 h3 him (by simp at hm; omega) hle hv
  obtain ⟨i, rfl⟩ : ∃ i : Nat, s = (i : Int) := ⟨s.toNat, by omega⟩
  simp only [Int.toNat_natCast] at *
  have hlt := nfl_eq hc him (by simp at hm; omega) (i := i) hiL
  have hR : rS c mu ((i : Int) :: v) = if bel c mu ((i : Int) :: v) then (if num mu i < 0 then rS c (refl c i mu) v else addP (shiftP (rS c (refl c i mu) v) 1) (subP (shiftP (rS c mu v) 1) (rS c mu v))) else [] := rfl
  have HLC := Lib.hid (show Lets c.length ((i : Int) :: nf c 30 mu) from fun q hq => by
    rcases List.mem_cons.1 hq with rfl | hq
    · exact hs
    · exact hlu q hq)
  obtain ⟨a3, c3, rfl⟩ := h3.form
  obtain ⟨b3, o3, q3, e3, hc3, hq3⟩ := RI.at h3 (j := 0) (by simp)
  have hcap := (RL.cap h3).1
  simp only [List.length_cons] at hcap hv h3 hbel hm ⊢
  subst e3
  obtain rfl : q3 = (i : Int) := by have := hq3.out; simpa using this.symm
  rw [Nat.add_zero] at hc3
  obtain ⟨a2, c2, rfl⟩ := h2.form
  obtain ⟨A1, C1, hdr, hrun⟩ : ∃ (A1 C1 : Nat), RI S2 w (.slice (some ⟨b3, A1, none⟩) v.length C1) v ∧ ((c3 = 1 ∧ A1 = o3 ∧ C1 = 0 ∧ v.length = 0) ∨ (1 < c3 ∧ A1 = o3 + 1 ∧ C1 = c3 - 1)) := by
    rcases (show c3 = 1 ∨ 1 < c3 by omega) with hcp | hcp
    · have hn0 : v.length = 0 := by omega
      refine ⟨o3, 0, ?_, .inl ⟨hcp, rfl, rfl, hn0⟩⟩
      have := RL.cutEnd h3 (k := 1) (by omega) (by omega)
      rw [hn0]
      exact this
    · exact ⟨o3 + 1, c3 - 1, by simpa using RL.cutFrom h3 (k := 1) (by omega), .inr ⟨hcp, rfl, rfl⟩⟩
  have HIM := Lib.hid him
  clear hs
  have i0 : ((v.length : Int) + 1 == 0) = false := beq_eq_false_iff_ne.2 (by omega)
  have HL1 := Lib.hid (rS_len c v (refl c i mu))
  have HL2 := Lib.hid (rS_len c v mu)
  have HR := Lib.hid hR
  have HLE := Lib.hid hle'
  have HUL := Lib.hid hul
  have HLT := Lib.hid hlt
  clear hR hle hle' hlu hq3 him hul h3 hlt
  generalize rS c mu ((i : Int) :: v) = res at *
  generalize hX : nf c 30 (refl c i mu) = X at *
  have HX := Lib.hid hX
  clear hX
  generalize hU : nf c 30 mu = U at *
  have HU := Lib.hid hU
  clear hU
  have HNC := Lib.hid hnc
  clear hnc
  generalize hn' : v.length = n at *
  have HN := Lib.hid hn'
  clear hn'
  cases hB : bel c mu ((i : Int) :: v)
  · rw [hB] at hbel
    have hR2 := HR.out
    rw [hB, if_neg (by simp)] at hR2
    clear HR hB hrun hdr
    subst hR2
    go_enter Try.func30, Try.ntmps30
    go_wp2_with fail
    refine hbel.mono ?_
    rintro e w1 ⟨rfl, b1⟩
    go_wp2_with fail
    obtain ⟨w2, hw2⟩ : ∃ w2, w2 = w1.alloc (.cells #[] 3) := ⟨_, rfl⟩
    obtain ⟨f2, b2⟩ := fresh_of b1 hw2
    rw [← hw2]
    clear hw2
    go_ret
    exact ⟨_, rfl, f2, b2⟩
  · rw [hB] at hbel HR
    clear hB
    rcases hrun with ⟨rfl, rfl, rfl, hn0⟩ | ⟨hc1, rfl, rfl⟩
    · subst hn0
      go_enter Try.func30, Try.ntmps30
      go_wp2_with fail
      refine hbel.mono ?_
      rintro e w1 ⟨rfl, b1⟩
      have hc3' := (b1.cell (p := ⟨b3, A1, none⟩) (World.block_lt_of_cell? w _ hc3)).trans hc3
      clear hc3
      have hR2 := HR.out
      rw [if_pos trivial] at hR2
      clear HR
      have bb : Below w1.heap.size w1 (w1.alloc (.cells #[.int .i64 i] 3)) := (Below.refl _ _).alloc (Nat.le_refl _) _
      have b0b := Keeps.step b1 bb
      go_wp2_with fail
      refine (concatSpec (RI.one w1 i) (h2.below b0b) (by simp) (by have := HUL.out; omega)).mono ?_
      rintro e w2 ⟨r2, rfl, f2, b2⟩
      have b02 := Keeps.step b0b b2
      go_wp2_with fail
      refine (normalSpec (h1.below b02) f2.reads hc HLC.out hl (by have := HUL.out; simp; omega)).mono ?_
      rintro e w3 ⟨r3, rfl, f3, b3'⟩
      have b03 := Keeps.step b02 b3'
      rw [show normL c ([(i : Int)] ++ U) = X from HNC.out] at f3
      obtain ⟨a4, c4, rfl⟩ := f3.reads.form
      clear f2 b2 hc3'
      have f3r : RI (New w2 w3) w3 (.slice a4 X.length c4) (nf c 30 (refl c i mu)) := (congrArg (RI (New w2 w3) w3 (.slice a4 X.length c4)) HX.out).mpr f3.reads
      clear f3
      by_cases hneg : num mu i < 0
      · rw [if_pos hneg] at hR2
        obtain ⟨m', hm', him2⟩ := HIM.out.back hc (by omega) (i := i) (x := num mu i) (by simp [num, hml, hiL]) hneg
        have HIM2 := Lib.hid him2
        have HR2 := Lib.hid hR2
        have i5 : (X.length : Int) < (U.length : Int) := by have := HLT.out.1 (by omega); omega
        clear him2 hR2 hneg
        go_wp2_with fail
        refine (ih (h1.below b03) f3r (hdr.below b03) HIM2.out (by rw [HN.out]; omega) HLE.out (by rw [HN.out]; omega)).mono ?_
        rintro e w4 ⟨r4, rfl, f4, b4⟩
        rw [← HR2.out] at f4
        go_wp2_with fail
        go_ret
        exact ⟨_, rfl, f4.mono (fun b hb => ⟨Nat.le_trans b03.size hb.1, hb.2⟩), Keeps.step b03 b4⟩
      · rw [if_neg hneg] at hR2
        have HIM2 := Lib.hid (HIM.out.step hc (by omega) hiL)
        have HR2 := Lib.hid hR2
        have i5 : ¬ (X.length : Int) < (U.length : Int) := by have := HLT.out.2 (by omega); omega
        clear hR2 hneg
        go_wp2_with fail
        refine (ih (h1.below b03) f3r (hdr.below b03) HIM2.out (by rw [HN.out]; omega) HLE.out (by rw [HN.out]; omega)).mono ?_
        rintro e w4 ⟨r4, rfl, f4, b4⟩
        have b04 := Keeps.step b03 b4
        go_wp2_with fail
        refine (shiftSpec f4.reads 1 (by decide) (by have := HL1.out; omega)).mono ?_
        rintro e w5 ⟨r5, rfl, f5, b5⟩
        have b05 := Keeps.step b04 b5
        clear f4 f3r
        have h22 : RI S1 w5 (.slice a2 U.length c2) (nf c 30 mu) := (congrArg (RI S1 w5 (.slice a2 U.length c2)) HU.out).mpr (h2.below b05)
        go_wp2_with fail
        refine (ih (h1.below b05) h22 (hdr.below b05) HIM.out (by rw [HN.out]; omega) HLE.out (by rw [HN.out]; omega)).mono ?_
        rintro e w6 ⟨r6, rfl, f6, b6⟩
        have b06 := Keeps.step b05 b6
        clear h22
        go_wp2_with fail
        refine (shiftSpec f6.reads 1 (by decide) (by have := HL2.out; omega)).mono ?_
        rintro e w7 ⟨r7, rfl, f7, b7⟩
        have b07 := Keeps.step b06 b7
        go_wp2_with fail
        refine (subSpec f7.reads (f6.reads.below b7) (shiftP_in (rS_in c v mu)) (by have := HL2.out; have := shiftP_len (rS c mu v); omega) (by have := HL2.out; omega)).mono ?_
        rintro e w8 ⟨r8, rfl, f8, b8⟩
        have b08 := Keeps.step b07 b8
        go_wp2_with fail
        refine (addSpec (f5.reads.below (Keeps.step b6 (Keeps.step b7 b8))) f8.reads (shiftP_in (rS_in c v _)) (subP_in _ _) (by have := HL1.out; have := shiftP_len (rS c (refl c i mu) v); omega) (by have := HL2.out; have := shiftP_len (rS c mu v); have := subP_le (shiftP (rS c mu v) 1) (rS c mu v); omega)).mono ?_
        rintro e w9 ⟨r9, rfl, f9, b9⟩
        have b09 := Keeps.step b08 b9
        rw [← HR2.out] at f9
        go_wp2_with fail
        go_ret
        exact ⟨_, rfl, f9.mono (fun b hb => ⟨Nat.le_trans b08.size hb.1, hb.2⟩), b09⟩
    · go_enter Try.func30, Try.ntmps30
      go_wp2_with fail
      refine hbel.mono ?_
      rintro e w1 ⟨rfl, b1⟩
      have hc3' := (b1.cell (p := ⟨b3, o3, none⟩) (World.block_lt_of_cell? w _ hc3)).trans hc3
      clear hc3
      have hR2 := HR.out
      rw [if_pos trivial] at hR2
      clear HR
      have bb : Below w1.heap.size w1 (w1.alloc (.cells #[.int .i64 i] 3)) := (Below.refl _ _).alloc (Nat.le_refl _) _
      have b0b := Keeps.step b1 bb
      go_wp2_with fail
      refine (concatSpec (RI.one w1 i) (h2.below b0b) (by simp) (by have := HUL.out; omega)).mono ?_
      rintro e w2 ⟨r2, rfl, f2, b2⟩
      have b02 := Keeps.step b0b b2
      go_wp2_with fail
      refine (normalSpec (h1.below b02) f2.reads hc HLC.out hl (by have := HUL.out; simp; omega)).mono ?_
      rintro e w3 ⟨r3, rfl, f3, b3'⟩
      have b03 := Keeps.step b02 b3'
      rw [show normL c ([(i : Int)] ++ U) = X from HNC.out] at f3
      obtain ⟨a4, c4, rfl⟩ := f3.reads.form
      clear f2 b2 hc3'
      have f3r : RI (New w2 w3) w3 (.slice a4 X.length c4) (nf c 30 (refl c i mu)) := (congrArg (RI (New w2 w3) w3 (.slice a4 X.length c4)) HX.out).mpr f3.reads
      clear f3
      by_cases hneg : num mu i < 0
      · rw [if_pos hneg] at hR2
        obtain ⟨m', hm', him2⟩ := HIM.out.back hc (by omega) (i := i) (x := num mu i) (by simp [num, hml, hiL]) hneg
        have HIM2 := Lib.hid him2
        have HR2 := Lib.hid hR2
        have i5 : (X.length : Int) < (U.length : Int) := by have := HLT.out.1 (by omega); omega
        clear him2 hR2 hneg
        go_wp2_with fail
        refine (ih (h1.below b03) f3r (hdr.below b03) HIM2.out (by rw [HN.out]; omega) HLE.out (by rw [HN.out]; omega)).mono ?_
        rintro e w4 ⟨r4, rfl, f4, b4⟩
        rw [← HR2.out] at f4
        go_wp2_with fail
        go_ret
        exact ⟨_, rfl, f4.mono (fun b hb => ⟨Nat.le_trans b03.size hb.1, hb.2⟩), Keeps.step b03 b4⟩
      · rw [if_neg hneg] at hR2
        have HIM2 := Lib.hid (HIM.out.step hc (by omega) hiL)
        have HR2 := Lib.hid hR2
        have i5 : ¬ (X.length : Int) < (U.length : Int) := by have := HLT.out.2 (by omega); omega
        clear hR2 hneg
        go_wp2_with fail
        refine (ih (h1.below b03) f3r (hdr.below b03) HIM2.out (by rw [HN.out]; omega) HLE.out (by rw [HN.out]; omega)).mono ?_
        rintro e w4 ⟨r4, rfl, f4, b4⟩
        have b04 := Keeps.step b03 b4
        go_wp2_with fail
        refine (shiftSpec f4.reads 1 (by decide) (by have := HL1.out; omega)).mono ?_
        rintro e w5 ⟨r5, rfl, f5, b5⟩
        have b05 := Keeps.step b04 b5
        clear f4 f3r
        have h22 : RI S1 w5 (.slice a2 U.length c2) (nf c 30 mu) := (congrArg (RI S1 w5 (.slice a2 U.length c2)) HU.out).mpr (h2.below b05)
        go_wp2_with fail
        refine (ih (h1.below b05) h22 (hdr.below b05) HIM.out (by rw [HN.out]; omega) HLE.out (by rw [HN.out]; omega)).mono ?_
        rintro e w6 ⟨r6, rfl, f6, b6⟩
        have b06 := Keeps.step b05 b6
        clear h22
        go_wp2_with fail
        refine (shiftSpec f6.reads 1 (by decide) (by have := HL2.out; omega)).mono ?_
        rintro e w7 ⟨r7, rfl, f7, b7⟩
        have b07 := Keeps.step b06 b7
        go_wp2_with fail
        refine (subSpec f7.reads (f6.reads.below b7) (shiftP_in (rS_in c v mu)) (by have := HL2.out; have := shiftP_len (rS c mu v); omega) (by have := HL2.out; omega)).mono ?_
        rintro e w8 ⟨r8, rfl, f8, b8⟩
        have b08 := Keeps.step b07 b8
        go_wp2_with fail
        refine (addSpec (f5.reads.below (Keeps.step b6 (Keeps.step b7 b8))) f8.reads (shiftP_in (rS_in c v _)) (subP_in _ _) (by have := HL1.out; have := shiftP_len (rS c (refl c i mu) v); omega) (by have := HL2.out; have := shiftP_len (rS c mu v); have := subP_le (shiftP (rS c mu v) 1) (rS c mu v); omega)).mono ?_
        rintro e w9 ⟨r9, rfl, f9, b9⟩
        have b09 := Keeps.step b08 b9
        rw [← HR2.out] at f9
        go_wp2_with fail
        go_ret
        exact ⟨_, rfl, f9.mono (fun b hb => ⟨Nat.le_trans b08.size hb.1, hb.2⟩), b09⟩

theorem rP_all {c : List (List Int)} (hc : CartanP c) (hl : total c ≤ 16777216) : ∀ v, RP c v
  | [] => rP_nil hc hl
  | _ :: v => rP_cons hc hl (rP_all hc hl v)
end Go.Proofs.Ytipjomdldjbenaa
