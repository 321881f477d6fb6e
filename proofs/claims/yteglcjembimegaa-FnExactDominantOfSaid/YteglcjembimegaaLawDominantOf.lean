/- The program's DominantOf returns what the reference's returns: the walk of the law. Condition: none. -/
import Derived.Test.YteglcjembimegaaLawRows
import Derived.Test.YteglcjembimegaaDomOfS
import Derived.Test.YteglcjembimegaaOpen
namespace Go.Proofs.Yteglcjembimegaa
open Go.RowKit
set_option maxRecDepth 20000

set_option maxHeartbeats 4000000 in
set_option maxRecDepth 100000 in
theorem lawDominantOf {v0 : Value} {L0 : List (List Int)} {v1 : Value} {L1 : List Int} {w : World} (r0 : RIIW w v0 L0) (r1 : RIW w v1 L1) :
    Calls Try.prog 4 #[v0, v1] w fun e w' => e = .returned (.bool true) ∧ Below w.heap.size w w' := by
  have h0 := RIIW.plain r0
  have wf0 := Lib.hid (RIIW.wf r0)
  have h1 := RIW.plain r1
  have wf1 := Lib.hid (RIW.wf r1)
  clear r0 r1
  obtain ⟨a1, c1, rfl⟩ := h1.form
  generalize hn1 : L1.length = n1 at *
  have H1 := Lib.hid hn1
  clear hn1
  by_cases c101 : n1 ≤ 1048576
  · have s1 : L1.length ≤ 1048576 := by have := H1.out; omega
    go_enter Try.func4, Try.ntmps4
    go_wp2_with fail
    refine (szIntSS_any h0 1048576 (by omega) (by omega)).mono ?_
    rintro e w1 ⟨⟨q1, rfl, Q1⟩, m1⟩
    have b1 := below_same m1
    clear m1
    have z1 := b1.size
    have t1 := b1
    rcases Q1 with Q1 | ⟨Q1, E1⟩
    · go_wp2
      go_ret
      exact ⟨rfl, t1⟩
    have s0 : total L0 ≤ 1048576 := by omega
    have G1 : q1 ≤ 1048576 := by omega
    clear E1
    have s0' : total L0 ≤ 16777216 := by omega
    have s1' : L1.length ≤ 16777216 := by omega
    go_wp2_with fail
    refine (toIntSS_any (h0.below t1) s0').mono ?_
    rintro e w2 ⟨u2, rfl, f2, b2⟩
    have z2 := b2.size
    have t2 := Keeps.step t1 b2
    go_wp2_with fail
    refine (toIntS_any (h1.below t2) s1').mono ?_
    rintro e w3 ⟨u3, rfl, f3, b3⟩
    have z3 := b3.size
    have t3 := Keeps.step t2 b3
    have f2 := f2.below b3
    go_wp2_with fail
    refine (dominantOfSpec f2.any f3.any s0' s1').mono ?_
    rintro e w4 ⟨u4_0, u4_1, rfl, f4_0, f4_1, -, b4⟩
    have z4 := b4.size
    have t4 := Keeps.step t3 b4
    have f2 := f2.below b4
    have f3 := f3.below b4
    have f4_0 := RI.old (f4_0.any)
    have f4_1 := RI.old (f4_1.any)
    go_wp2_with fail
    refine (toIntSS_any (h0.below t4) s0').mono ?_
    rintro e w5 ⟨u5, rfl, f5, b5⟩
    have z5 := b5.size
    have t5 := Keeps.step t4 b5
    have f4_0 := f4_0.below b5
    have f4_1 := f4_1.below b5
    go_wp2_with fail
    refine (toIntS_any (h1.below t5) s1').mono ?_
    rintro e w6 ⟨u6, rfl, f6, b6⟩
    have z6 := b6.size
    have t6 := Keeps.step t5 b6
    have f4_0 := f4_0.below b6
    have f4_1 := f4_1.below b6
    have f5 := f5.below b6
    go_wp2_with fail
    refine (dominantOfImpl f5.any f6.any s0' s1').mono ?_
    rintro e w7 ⟨v7_0, v7_1, rfl, g7_0, g7_1, DD, b7⟩
    have z7 := b7.size
    have t7 := Keeps.step t6 b7
    have f4_0 := f4_0.below b7
    have f4_1 := f4_1.below b7
    have f5 := f5.below b7
    have f6 := f6.below b7
    have DD := Lib.hid DD
    have g7_0 := g7_0.own
    have g7_1 := g7_1.own
    have sr0 : (dom1 L0 L1).length ≤ 4194304 := by have := dom1_le L0 L1; omega
    have sr1 : (dom2 L0 L1).length ≤ 4194304 := by have := dom2_le L0 L1; omega
    have sr0' : (dom1 L0 L1).length ≤ 16777216 := by omega
    have sr1' : (dom2 L0 L1).length ≤ 16777216 := by omega
    go_wp2_with fail
    refine (eqIntS_same g7_0.any f4_0.any sr0').mono ?_
    rintro e w8 ⟨rfl, m8⟩
    have b8 := below_quiet m8
    clear m8
    have z8 := b8.size
    have t8 := Keeps.step t7 b8
    have f4_0 := f4_0.below b8
    have f4_1 := f4_1.below b8
    have f5 := f5.below b8
    have f6 := f6.below b8
    have g7_0 := g7_0.below b8
    have g7_1 := g7_1.below b8
    go_wp2_with fail
    refine (eqIntS_same g7_1.any f4_1.any sr1').mono ?_
    rintro e w9 ⟨rfl, m9⟩
    have b9 := below_quiet m9
    clear m9
    have z9 := b9.size
    have t9 := Keeps.step t8 b9
    have f4_0 := f4_0.below b9
    have f4_1 := f4_1.below b9
    have f5 := f5.below b9
    have f6 := f6.below b9
    have g7_0 := g7_0.below b9
    have g7_1 := g7_1.below b9
    go_wp2_with fail
    refine (toIntSS_any (h0.below t9) s0').mono ?_
    rintro e w10 ⟨u10, rfl, f10, b10⟩
    have z10 := b10.size
    have t10 := Keeps.step t9 b10
    have f4_0 := f4_0.below b10
    have f4_1 := f4_1.below b10
    have f5 := f5.below b10
    have f6 := f6.below b10
    have g7_0 := g7_0.below b10
    have g7_1 := g7_1.below b10
    go_wp2_with fail
    refine (eqIntSS_same f5.any f10.any s0').mono ?_
    rintro e w11 ⟨rfl, m11⟩
    have b11 := below_quiet m11
    clear m11
    have z11 := b11.size
    have t11 := Keeps.step t10 b11
    have f4_0 := f4_0.below b11
    have f4_1 := f4_1.below b11
    have f5 := f5.below b11
    have f6 := f6.below b11
    have g7_0 := g7_0.below b11
    have g7_1 := g7_1.below b11
    go_wp2_with fail
    refine (toIntS_any (h1.below t11) s1').mono ?_
    rintro e w12 ⟨u12, rfl, f12, b12⟩
    have z12 := b12.size
    have t12 := Keeps.step t11 b12
    have f4_0 := f4_0.below b12
    have f4_1 := f4_1.below b12
    have f5 := f5.below b12
    have f6 := f6.below b12
    have g7_0 := g7_0.below b12
    have g7_1 := g7_1.below b12
    go_wp2_with fail
    refine (eqIntS_same f6.any f12.any s1').mono ?_
    rintro e w13 ⟨rfl, m13⟩
    have b13 := below_quiet m13
    clear m13
    have z13 := b13.size
    have t13 := Keeps.step t12 b13
    have f4_0 := f4_0.below b13
    have f4_1 := f4_1.below b13
    have f5 := f5.below b13
    have f6 := f6.below b13
    have g7_0 := g7_0.below b13
    have g7_1 := g7_1.below b13
    have e0 : (L0.map List.length).sum ≤ 1048576 := by unfold total at s0; omega
    go_wp2_with fail
    refine (markIntSS_f f5 1 (by omega)).mono ?_
    rintro e w14 ⟨rfl, -, o14⟩
    have z14 := o14.size_le
    have y14 := o14.size_ge
    have t14 := t13.trans (o14.below (B := w.heap.size) (fun b hb => by have := hb.1; omega))
    have f4_0 := f4_0.only o14 (fun b hb hb' => by first | (have h1 := hb.1; have h2 := hb.2; have h3 := hb'.1; have h4 := hb'.2; omega) | exact DD.out b hb'.2 hb.2 | exact DD.out b hb.2 hb'.2)
    have f4_1 := f4_1.only o14 (fun b hb hb' => by first | (have h1 := hb.1; have h2 := hb.2; have h3 := hb'.1; have h4 := hb'.2; omega) | exact DD.out b hb'.2 hb.2 | exact DD.out b hb.2 hb'.2)
    have f6 := f6.only o14 (fun b hb hb' => by first | (have h1 := hb.1; have h2 := hb.2; have h3 := hb'.1; have h4 := hb'.2; omega) | exact DD.out b hb'.2 hb.2 | exact DD.out b hb.2 hb'.2)
    have g7_0 := g7_0.only o14 (fun b hb hb' => by first | (have h1 := hb.1; have h2 := hb.2; have h3 := hb'.1; have h4 := hb'.2; omega) | exact DD.out b hb'.2 hb.2 | exact DD.out b hb.2 hb'.2)
    have g7_1 := g7_1.only o14 (fun b hb hb' => by first | (have h1 := hb.1; have h2 := hb.2; have h3 := hb'.1; have h4 := hb'.2; omega) | exact DD.out b hb'.2 hb.2 | exact DD.out b hb.2 hb'.2)
    clear o14
    generalize hK1 : 1 + (L0.map List.length).sum = K1 at *
    have HK1 : K1 ≤ 1 + 1 * 1048576 := by omega
    clear hK1
    have e1 : L1.length ≤ 1048576 := s1
    go_wp2_with fail
    refine (markIntS_f f6 K1 (by omega)).mono ?_
    rintro e w15 ⟨rfl, -, o15⟩
    have z15 := o15.size_le
    have y15 := o15.size_ge
    have t15 := t14.trans (o15.below (B := w.heap.size) (fun b hb => by have := hb.1; omega))
    have f4_0 := f4_0.only o15 (fun b hb hb' => by first | (have h1 := hb.1; have h2 := hb.2; have h3 := hb'.1; have h4 := hb'.2; omega) | exact DD.out b hb'.2 hb.2 | exact DD.out b hb.2 hb'.2)
    have f4_1 := f4_1.only o15 (fun b hb hb' => by first | (have h1 := hb.1; have h2 := hb.2; have h3 := hb'.1; have h4 := hb'.2; omega) | exact DD.out b hb'.2 hb.2 | exact DD.out b hb.2 hb'.2)
    have g7_0 := g7_0.only o15 (fun b hb hb' => by first | (have h1 := hb.1; have h2 := hb.2; have h3 := hb'.1; have h4 := hb'.2; omega) | exact DD.out b hb'.2 hb.2 | exact DD.out b hb.2 hb'.2)
    have g7_1 := g7_1.only o15 (fun b hb hb' => by first | (have h1 := hb.1; have h2 := hb.2; have h3 := hb'.1; have h4 := hb'.2; omega) | exact DD.out b hb'.2 hb.2 | exact DD.out b hb.2 hb'.2)
    clear o15
    generalize hK2 : K1 + L1.length = K2 at *
    have HK2 : K2 ≤ 1 + 2 * 1048576 := by omega
    clear hK2
    go_wp2_with fail
    refine (eqIntS_same g7_0.any f4_0.any sr0').mono ?_
    rintro e w16 ⟨rfl, m16⟩
    have b16 := below_quiet m16
    clear m16
    have z16 := b16.size
    have t16 := Keeps.step t15 b16
    have f4_0 := f4_0.below b16
    have f4_1 := f4_1.below b16
    have g7_0 := g7_0.below b16
    have g7_1 := g7_1.below b16
    go_wp2_with fail
    refine (eqIntS_same g7_1.any f4_1.any sr1').mono ?_
    rintro e w17 ⟨rfl, m17⟩
    have b17 := below_quiet m17
    clear m17
    have z17 := b17.size
    have t17 := Keeps.step t16 b17
    have f4_0 := f4_0.below b17
    have f4_1 := f4_1.below b17
    have g7_0 := g7_0.below b17
    have g7_1 := g7_1.below b17
    go_wp2_with fail
    refine (markIntS_f g7_0 1 (by omega)).mono ?_
    rintro e w18 ⟨rfl, M0, o18⟩
    have z18 := o18.size_le
    have y18 := o18.size_ge
    have t18 := t17.trans (o18.below (B := w.heap.size) (fun b hb => by have := hb.1; omega))
    have f4_0 := f4_0.only o18 (fun b hb hb' => by first | (have h1 := hb.1; have h2 := hb.2; have h3 := hb'.1; have h4 := hb'.2; omega) | exact DD.out b hb'.2 hb.2 | exact DD.out b hb.2 hb'.2)
    have f4_1 := f4_1.only o18 (fun b hb hb' => by first | (have h1 := hb.1; have h2 := hb.2; have h3 := hb'.1; have h4 := hb'.2; omega) | exact DD.out b hb'.2 hb.2 | exact DD.out b hb.2 hb'.2)
    have g7_1 := g7_1.only o18 (fun b hb hb' => by first | (have h1 := hb.1; have h2 := hb.2; have h3 := hb'.1; have h4 := hb'.2; omega) | exact DD.out b hb'.2 hb.2 | exact DD.out b hb.2 hb'.2)
    clear o18
    generalize hZ1 : 1 + (dom1 L0 L1).length = Z1 at *
    have eZ1 : Z1 ≤ 1 + 1 * 4194304 := by have := sr0; omega
    have HZ1 := Lib.hid hZ1
    clear hZ1
    go_wp2_with fail
    refine (markIntS_f g7_1 Z1 (by omega)).mono ?_
    rintro e w19 ⟨rfl, M1, o19⟩
    have z19 := o19.size_le
    have y19 := o19.size_ge
    have t19 := t18.trans (o19.below (B := w.heap.size) (fun b hb => by have := hb.1; omega))
    have f4_0 := f4_0.only o19 (fun b hb hb' => by first | (have h1 := hb.1; have h2 := hb.2; have h3 := hb'.1; have h4 := hb'.2; omega) | exact DD.out b hb'.2 hb.2 | exact DD.out b hb.2 hb'.2)
    have f4_1 := f4_1.only o19 (fun b hb hb' => by first | (have h1 := hb.1; have h2 := hb.2; have h3 := hb'.1; have h4 := hb'.2; omega) | exact DD.out b hb'.2 hb.2 | exact DD.out b hb.2 hb'.2)
    have M0 := M0.only o19 (fun b hb hb' => by first | (have h1 := hb.1; have h2 := hb.2; have h3 := hb'.1; have h4 := hb'.2; omega) | exact DD.out b hb'.2 hb.2 | exact DD.out b hb.2 hb'.2)
    clear o19
    generalize hZ2 : Z1 + (dom2 L0 L1).length = Z2 at *
    have eZ2 : Z2 ≤ 1 + 2 * 4194304 := by have := sr1; omega
    have HZ2 := Lib.hid hZ2
    clear hZ2
    go_wp2_with fail
    refine (heldIntS_f M0 (by omega)).mono ?_
    rw [HZ1.out]
    rintro e w20 ⟨rfl, m20⟩
    have b20 := below_quiet m20
    clear m20
    have z20 := b20.size
    have t20 := Keeps.step t19 b20
    have f4_0 := f4_0.below b20
    have f4_1 := f4_1.below b20
    have M0 := M0.below b20
    have M1 := M1.below b20
    go_wp2_with fail
    refine (heldIntS_f M1 (by omega)).mono ?_
    rw [HZ2.out]
    rintro e w21 ⟨rfl, m21⟩
    have b21 := below_quiet m21
    clear m21
    have z21 := b21.size
    have t21 := Keeps.step t20 b21
    have f4_0 := f4_0.below b21
    have f4_1 := f4_1.below b21
    have M0 := M0.below b21
    have M1 := M1.below b21
    go_wp2_with fail
    refine (toIntSS_any (h0.below t21) s0').mono ?_
    rintro e w22 ⟨u22, rfl, f22, b22⟩
    have z22 := b22.size
    have t22 := Keeps.step t21 b22
    have f4_0 := f4_0.below b22
    have f4_1 := f4_1.below b22
    have M0 := M0.below b22
    have M1 := M1.below b22
    go_wp2_with fail
    refine (toIntS_any (h1.below t22) s1').mono ?_
    rintro e w23 ⟨u23, rfl, f23, b23⟩
    have z23 := b23.size
    have t23 := Keeps.step t22 b23
    have f4_0 := f4_0.below b23
    have f4_1 := f4_1.below b23
    have M0 := M0.below b23
    have M1 := M1.below b23
    have f22 := f22.below b23
    go_wp2_with fail
    refine (dominantOfImpl f22.any f23.any s0' s1').mono ?_
    rintro e w24 ⟨p24_0, p24_1, rfl, d24_0, d24_1, -, b24⟩
    have z24 := b24.size
    have t24 := Keeps.step t23 b24
    have f4_0 := f4_0.below b24
    have f4_1 := f4_1.below b24
    have M0 := M0.below b24
    have M1 := M1.below b24
    go_wp2_with fail
    refine (eqIntS_same d24_0.any f4_0.any sr0').mono ?_
    rintro e w25 ⟨rfl, m25⟩
    have b25 := below_quiet m25
    clear m25
    have z25 := b25.size
    have t25 := Keeps.step t24 b25
    have f4_0 := f4_0.below b25
    have f4_1 := f4_1.below b25
    have M0 := M0.below b25
    have M1 := M1.below b25
    have d24_0 := d24_0.below b25
    have d24_1 := d24_1.below b25
    go_wp2_with fail
    refine (eqIntS_same d24_1.any f4_1.any sr1').mono ?_
    rintro e w26 ⟨rfl, m26⟩
    have b26 := below_quiet m26
    clear m26
    have z26 := b26.size
    have t26 := Keeps.step t25 b26
    have f4_0 := f4_0.below b26
    have f4_1 := f4_1.below b26
    have M0 := M0.below b26
    have M1 := M1.below b26
    have d24_0 := d24_0.below b26
    have d24_1 := d24_1.below b26
    go_wp2_with fail
    refine (heldIntS_f M0 (by omega)).mono ?_
    rw [HZ1.out]
    rintro e w27 ⟨rfl, m27⟩
    have b27 := below_quiet m27
    clear m27
    have z27 := b27.size
    have t27 := Keeps.step t26 b27
    have M0 := M0.below b27
    have M1 := M1.below b27
    go_wp2_with fail
    refine (heldIntS_f M1 (by omega)).mono ?_
    rw [HZ2.out]
    rintro e w28 ⟨rfl, m28⟩
    have b28 := below_quiet m28
    clear m28
    have z28 := b28.size
    have t28 := Keeps.step t27 b28
    have M0 := M0.below b28
    have M1 := M1.below b28
    go_wp2
    go_ret
    exact ⟨rfl, t28⟩
  · go_enter Try.func4, Try.ntmps4
    go_wp2
    go_ret
    exact ⟨rfl, Below.refl _ _⟩
end Go.Proofs.Yteglcjembimegaa
