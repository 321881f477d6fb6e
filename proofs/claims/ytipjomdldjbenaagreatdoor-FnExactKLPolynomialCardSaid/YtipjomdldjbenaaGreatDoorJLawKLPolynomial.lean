/- The program's KLPolynomial returns what the reference's returns: the walk of the law. Condition: none. -/
import Derived.Test.YtipjomdldjbenaaGreatDoorJLawRows
import Derived.Test.YtipjomdldjbenaaGreatDoorJGKzB
import Derived.Test.YtipjomdldjbenaaGreatDoorJGKzE
import Derived.Test.YtipjomdldjbenaaGreatDoorJOpen
namespace Go.Proofs.YtipjomdldjbenaaGreatDoor
open Go.RowKit
set_option maxRecDepth 20000

set_option maxHeartbeats 4000000 in
set_option maxRecDepth 100000 in
theorem lawKLPolynomial {v0 : Value} {L0 : List (List Int)} {v1 : Value} {L1 : List Int} {v2 : Value} {L2 : List Int} {w : World} (r0 : RIIW w v0 L0) (r1 : RIW w v1 L1) (r2 : RIW w v2 L2) (hm0 : HasM w) :
    Calls Tryz.prog 6 #[v0, v1, v2] w fun e w' => e = .returned (.bool true) ∧ Below w.heap.size w w' := by
  have h0 := RIIW.plain r0
  have wf0 := Lib.hid (RIIW.wf r0)
  have h1 := RIW.plain r1
  have wf1 := Lib.hid (RIW.wf r1)
  have h2 := RIW.plain r2
  have wf2 := Lib.hid (RIW.wf r2)
  have HM := Lib.hid hm0
  clear hm0
  clear r0 r1 r2
  obtain ⟨a1, c1, rfl⟩ := h1.form
  generalize hn1 : L1.length = n1 at *
  have H1 := Lib.hid hn1
  clear hn1
  obtain ⟨a2, c2, rfl⟩ := h2.form
  generalize hn2 : L2.length = n2 at *
  have H2 := Lib.hid hn2
  clear hn2
  by_cases c101 : n1 ≤ 1048576
  · by_cases c102 : n2 ≤ 1048576
    · have s1 : L1.length ≤ 1048576 := by have := H1.out; omega
      have s2 : L2.length ≤ 1048576 := by have := H2.out; omega
      go_enter Tryz.func6, Tryz.ntmps6
      go_wp2_with fail
      refine (szIntSS_any h0 1048576 (by omega) (by omega)).mono ?_
      rintro e w1 ⟨⟨q1, rfl, Q1⟩, m1⟩
      have b1 := below_same m1
      clear m1
      have z1 := b1.size
      have t1 := b1
      rcases Q1 with Q1 | ⟨Q1, E1⟩
      · go_wp2
        go_ret
        exact ⟨rfl, t1⟩
      have s0 : total L0 ≤ 1048576 := by omega
      have G1 : q1 ≤ 1048576 := by omega
      clear E1
      have s0' : total L0 ≤ 16777216 := by omega
      have s1' : L1.length ≤ 16777216 := by omega
      have s2' : L2.length ≤ 16777216 := by omega
      go_wp2_with fail
      refine (toIntSS_any (h0.below t1) s0').mono ?_
      rintro e w2 ⟨u2, rfl, f2, b2⟩
      have z2 := b2.size
      have t2 := Keeps.step t1 b2
      go_wp2_with fail
      refine (toIntS_any (h1.below t2) s1').mono ?_
      rintro e w3 ⟨u3, rfl, f3, b3⟩
      have z3 := b3.size
      have t3 := Keeps.step t2 b3
      have f2 := f2.below b3
      go_wp2_with fail
      refine (toIntS_any (h2.below t3) s2').mono ?_
      rintro e w4 ⟨u4, rfl, f4, b4⟩
      have z4 := b4.size
      have t4 := Keeps.step t3 b4
      have f2 := f2.below b4
      have f3 := f3.below b4
      go_wp2_with fail
      refine (klPolySpec f2.any f3.any f4.any s0' s1' s2').mono ?_
      rintro e w5 ⟨u5_0, rfl, f5_0, b5⟩
      have z5 := b5.size
      have t5 := Keeps.step t4 b5
      have f2 := f2.below b5
      have f3 := f3.below b5
      have f4 := f4.below b5
      have f5_0 := RI.old (f5_0.any)
      go_wp2_with fail
      refine (toIntSS_any (h0.below t5) s0').mono ?_
      rintro e w6 ⟨u6, rfl, f6, b6⟩
      have z6 := b6.size
      have t6 := Keeps.step t5 b6
      have f5_0 := f5_0.below b6
      go_wp2_with fail
      refine (toIntS_any (h1.below t6) s1').mono ?_
      rintro e w7 ⟨u7, rfl, f7, b7⟩
      have z7 := b7.size
      have t7 := Keeps.step t6 b7
      have f5_0 := f5_0.below b7
      have f6 := f6.below b7
      go_wp2_with fail
      refine (toIntS_any (h2.below t7) s2').mono ?_
      rintro e w8 ⟨u8, rfl, f8, b8⟩
      have z8 := b8.size
      have t8 := Keeps.step t7 b8
      have f5_0 := f5_0.below b8
      have f6 := f6.below b8
      have f7 := f7.below b8
      go_wp2_with fail
      refine (klPolyImpl f6.any f7.any f8.any s0' s1' s2' (HM.out.below t8)).mono ?_
      rintro e w9 ⟨v9_0, rfl, g9_0, b9⟩
      have z9 := b9.size
      have t9 := Keeps.step t8 b9
      have f5_0 := f5_0.below b9
      have f6 := f6.below b9
      have f7 := f7.below b9
      have f8 := f8.below b9
      have sr0 : (kpP L0 L1 L2).length ≤ 8388608 := by have := kp_len L0 L1 L2; omega
      have sr0' : (kpP L0 L1 L2).length ≤ 16777216 := by omega
      go_wp2_with fail
      refine (eqIntS_same g9_0.any f5_0.any sr0').mono ?_
      rintro e w10 ⟨rfl, m10⟩
      have b10 := below_quiet m10
      clear m10
      have z10 := b10.size
      have t10 := Keeps.step t9 b10
      have f5_0 := f5_0.below b10
      have f6 := f6.below b10
      have f7 := f7.below b10
      have f8 := f8.below b10
      have g9_0 := g9_0.below b10
      go_wp2_with fail
      refine (toIntSS_any (h0.below t10) s0').mono ?_
      rintro e w11 ⟨u11, rfl, f11, b11⟩
      have z11 := b11.size
      have t11 := Keeps.step t10 b11
      have f5_0 := f5_0.below b11
      have f6 := f6.below b11
      have f7 := f7.below b11
      have f8 := f8.below b11
      have g9_0 := g9_0.below b11
      go_wp2_with fail
      refine (eqIntSS_same f6.any f11.any s0').mono ?_
      rintro e w12 ⟨rfl, m12⟩
      have b12 := below_quiet m12
      clear m12
      have z12 := b12.size
      have t12 := Keeps.step t11 b12
      have f5_0 := f5_0.below b12
      have f6 := f6.below b12
      have f7 := f7.below b12
      have f8 := f8.below b12
      have g9_0 := g9_0.below b12
      go_wp2_with fail
      refine (toIntS_any (h1.below t12) s1').mono ?_
      rintro e w13 ⟨u13, rfl, f13, b13⟩
      have z13 := b13.size
      have t13 := Keeps.step t12 b13
      have f5_0 := f5_0.below b13
      have f6 := f6.below b13
      have f7 := f7.below b13
      have f8 := f8.below b13
      have g9_0 := g9_0.below b13
      go_wp2_with fail
      refine (eqIntS_same f7.any f13.any s1').mono ?_
      rintro e w14 ⟨rfl, m14⟩
      have b14 := below_quiet m14
      clear m14
      have z14 := b14.size
      have t14 := Keeps.step t13 b14
      have f5_0 := f5_0.below b14
      have f6 := f6.below b14
      have f7 := f7.below b14
      have f8 := f8.below b14
      have g9_0 := g9_0.below b14
      go_wp2_with fail
      refine (toIntS_any (h2.below t14) s2').mono ?_
      rintro e w15 ⟨u15, rfl, f15, b15⟩
      have z15 := b15.size
      have t15 := Keeps.step t14 b15
      have f5_0 := f5_0.below b15
      have f6 := f6.below b15
      have f7 := f7.below b15
      have f8 := f8.below b15
      have g9_0 := g9_0.below b15
      go_wp2_with fail
      refine (eqIntS_same f8.any f15.any s2').mono ?_
      rintro e w16 ⟨rfl, m16⟩
      have b16 := below_quiet m16
      clear m16
      have z16 := b16.size
      have t16 := Keeps.step t15 b16
      have f5_0 := f5_0.below b16
      have f6 := f6.below b16
      have f7 := f7.below b16
      have f8 := f8.below b16
      have g9_0 := g9_0.below b16
      have e0 : (L0.map List.length).sum ≤ 1048576 := by unfold total at s0; omega
      go_wp2_with fail
      refine (markIntSS_f f6 1 (by omega)).mono ?_
      rintro e w17 ⟨rfl, -, o17⟩
      have z17 := o17.size_le
      have y17 := o17.size_ge
      have t17 := t16.trans (o17.below (B := w.heap.size) (fun b hb => by have := hb.1; omega))
      have f5_0 := f5_0.only o17 (fun b hb hb' => by have h1 := hb.1; have h2 := hb.2; have h3 := hb'.1; have h4 := hb'.2; omega)
      have f7 := f7.only o17 (fun b hb hb' => by have h1 := hb.1; have h2 := hb.2; have h3 := hb'.1; have h4 := hb'.2; omega)
      have f8 := f8.only o17 (fun b hb hb' => by have h1 := hb.1; have h2 := hb.2; have h3 := hb'.1; have h4 := hb'.2; omega)
      have g9_0 := g9_0.only o17 (fun b hb hb' => by have h1 := hb.1; have h2 := hb.2; have h3 := hb'.1; have h4 := hb'.2; omega)
      clear o17
      generalize hK1 : 1 + (L0.map List.length).sum = K1 at *
      have HK1 : K1 ≤ 1 + 1 * 1048576 := by omega
      clear hK1
      have e1 : L1.length ≤ 1048576 := s1
      go_wp2_with fail
      refine (markIntS_f f7 K1 (by omega)).mono ?_
      rintro e w18 ⟨rfl, -, o18⟩
      have z18 := o18.size_le
      have y18 := o18.size_ge
      have t18 := t17.trans (o18.below (B := w.heap.size) (fun b hb => by have := hb.1; omega))
      have f5_0 := f5_0.only o18 (fun b hb hb' => by have h1 := hb.1; have h2 := hb.2; have h3 := hb'.1; have h4 := hb'.2; omega)
      have f8 := f8.only o18 (fun b hb hb' => by have h1 := hb.1; have h2 := hb.2; have h3 := hb'.1; have h4 := hb'.2; omega)
      have g9_0 := g9_0.only o18 (fun b hb hb' => by have h1 := hb.1; have h2 := hb.2; have h3 := hb'.1; have h4 := hb'.2; omega)
      clear o18
      generalize hK2 : K1 + L1.length = K2 at *
      have HK2 : K2 ≤ 1 + 2 * 1048576 := by omega
      clear hK2
      have e2 : L2.length ≤ 1048576 := s2
      go_wp2_with fail
      refine (markIntS_f f8 K2 (by omega)).mono ?_
      rintro e w19 ⟨rfl, -, o19⟩
      have z19 := o19.size_le
      have y19 := o19.size_ge
      have t19 := t18.trans (o19.below (B := w.heap.size) (fun b hb => by have := hb.1; omega))
      have f5_0 := f5_0.only o19 (fun b hb hb' => by have h1 := hb.1; have h2 := hb.2; have h3 := hb'.1; have h4 := hb'.2; omega)
      have g9_0 := g9_0.only o19 (fun b hb hb' => by have h1 := hb.1; have h2 := hb.2; have h3 := hb'.1; have h4 := hb'.2; omega)
      clear o19
      generalize hK3 : K2 + L2.length = K3 at *
      have HK3 : K3 ≤ 1 + 3 * 1048576 := by omega
      clear hK3
      go_wp2_with fail
      refine (eqIntS_same g9_0.any f5_0.any sr0').mono ?_
      rintro e w20 ⟨rfl, m20⟩
      have b20 := below_quiet m20
      clear m20
      have z20 := b20.size
      have t20 := Keeps.step t19 b20
      have f5_0 := f5_0.below b20
      have g9_0 := g9_0.below b20
      go_wp2_with fail
      refine (markIntS_f g9_0 1 (by omega)).mono ?_
      rintro e w21 ⟨rfl, M0, o21⟩
      have z21 := o21.size_le
      have y21 := o21.size_ge
      have t21 := t20.trans (o21.below (B := w.heap.size) (fun b hb => by have := hb.1; omega))
      have f5_0 := f5_0.only o21 (fun b hb hb' => by have h1 := hb.1; have h2 := hb.2; have h3 := hb'.1; have h4 := hb'.2; omega)
      clear o21
      generalize hZ1 : 1 + (kpP L0 L1 L2).length = Z1 at *
      have eZ1 : Z1 ≤ 1 + 1 * 8388608 := by have := sr0; omega
      have HZ1 := Lib.hid hZ1
      clear hZ1
      go_wp2_with fail
      refine (heldIntS_f M0 (by omega)).mono ?_
      rw [HZ1.out]
      rintro e w22 ⟨rfl, m22⟩
      have b22 := below_quiet m22
      clear m22
      have z22 := b22.size
      have t22 := Keeps.step t21 b22
      have f5_0 := f5_0.below b22
      have M0 := M0.below b22
      go_wp2_with fail
      refine (toIntSS_any (h0.below t22) s0').mono ?_
      rintro e w23 ⟨u23, rfl, f23, b23⟩
      have z23 := b23.size
      have t23 := Keeps.step t22 b23
      have f5_0 := f5_0.below b23
      have M0 := M0.below b23
      go_wp2_with fail
      refine (toIntS_any (h1.below t23) s1').mono ?_
      rintro e w24 ⟨u24, rfl, f24, b24⟩
      have z24 := b24.size
      have t24 := Keeps.step t23 b24
      have f5_0 := f5_0.below b24
      have M0 := M0.below b24
      have f23 := f23.below b24
      go_wp2_with fail
      refine (toIntS_any (h2.below t24) s2').mono ?_
      rintro e w25 ⟨u25, rfl, f25, b25⟩
      have z25 := b25.size
      have t25 := Keeps.step t24 b25
      have f5_0 := f5_0.below b25
      have M0 := M0.below b25
      have f23 := f23.below b25
      have f24 := f24.below b25
      go_wp2_with fail
      refine (klPolyImpl f23.any f24.any f25.any s0' s1' s2' (HM.out.below t25)).mono ?_
      rintro e w26 ⟨p26_0, rfl, d26_0, b26⟩
      have z26 := b26.size
      have t26 := Keeps.step t25 b26
      have f5_0 := f5_0.below b26
      have M0 := M0.below b26
      go_wp2_with fail
      refine (eqIntS_same d26_0.any f5_0.any sr0').mono ?_
      rintro e w27 ⟨rfl, m27⟩
      have b27 := below_quiet m27
      clear m27
      have z27 := b27.size
      have t27 := Keeps.step t26 b27
      have f5_0 := f5_0.below b27
      have M0 := M0.below b27
      have d26_0 := d26_0.below b27
      go_wp2_with fail
      refine (heldIntS_f M0 (by omega)).mono ?_
      rw [HZ1.out]
      rintro e w28 ⟨rfl, m28⟩
      have b28 := below_quiet m28
      clear m28
      have z28 := b28.size
      have t28 := Keeps.step t27 b28
      have M0 := M0.below b28
      go_wp2
      go_ret
      exact ⟨rfl, t28⟩
    · go_enter Tryz.func6, Tryz.ntmps6
      go_wp2
      go_ret
      exact ⟨rfl, Below.refl _ _⟩
  · go_enter Tryz.func6, Tryz.ntmps6
    go_wp2
    go_ret
    exact ⟨rfl, Below.refl _ _⟩
end Go.Proofs.YtipjomdldjbenaaGreatDoor
