/- The program's ScaleHecke returns what the reference's returns: the walk of the law. Condition: none. -/
import Derived.Test.YtfpjojlkodglnaaJLawTerm
import Derived.Test.YtfpjojlkodglnaaJGHecke
import Derived.Test.YtfpjojlkodglnaaJOpen
namespace Go.Proofs.Ytfpjojlkodglnaa
open Go.RowKit
set_option maxRecDepth 20000

set_option maxHeartbeats 4000000 in
set_option maxRecDepth 100000 in
theorem lawScaleHecke {v0 : Value} {L0 : List (List Int)} {v1 : Value} {L1 : List Trm} {v2 : Value} {L2 : List Int} {w : World} (r0 : RIIW w v0 L0) (r1 : RL2 none Any RTermW w v1 L1) (r2 : RIW w v2 L2) :
    Calls Try.prog 3 #[v0, v1, v2] w fun e w' => e = .returned (.bool true) ∧ Below w.heap.size w w' := by
  have h0 := RIIW.plain r0
  have wf0 := Lib.hid (RIIW.wf r0)
  have h1 := RTermW.plain r1
  have h2 := RIW.plain r2
  have wf2 := Lib.hid (RIW.wf r2)
  clear r0 r1 r2
  obtain ⟨a2, c2, rfl⟩ := h2.form
  generalize hn2 : L2.length = n2 at *
  have H2 := Lib.hid hn2
  clear hn2
  by_cases c102 : n2 ≤ 1048576
  · have s2 : L2.length ≤ 1048576 := by have := H2.out; omega
    go_enter Try.func3, Try.ntmps3
    go_wp2_with fail
    refine (szIntSS_any h0 1048576 (by omega) (by omega)).mono ?_
    rintro e w1 ⟨⟨q1, rfl, Q1⟩, m1⟩
    have b1 := below_same m1
    clear m1
    have z1 := b1.size
    have t1 := b1
    rcases Q1 with Q1 | ⟨Q1, E1⟩
    · go_wp2
      go_ret
      exact ⟨rfl, t1⟩
    have s0 : total L0 ≤ 1048576 := by omega
    have G1 : q1 ≤ 1048576 := by omega
    clear E1
    go_wp2_with fail
    refine (szTermS_any (h1.below t1) q1 (by omega) (by omega)).mono ?_
    rintro e w2 ⟨⟨q2, rfl, Q2⟩, b2⟩
    have z2 := b2.size
    have t2 := Keeps.step t1 b2
    rcases Q2 with Q2 | ⟨Q2, E2⟩
    · go_wp2
      go_ret
      exact ⟨rfl, t2⟩
    have s1 : totalT L1 ≤ 1048576 := by omega
    have G2 : q2 ≤ 1048576 := by omega
    clear E2
    have s0' : total L0 ≤ 16777216 := by omega
    have s1' : totalT L1 ≤ 16777216 := by omega
    have s2' : L2.length ≤ 16777216 := by omega
    go_wp2_with fail
    refine (toIntSS_any (h0.below t2) s0').mono ?_
    rintro e w3 ⟨u3, rfl, f3, b3⟩
    have z3 := b3.size
    have t3 := Keeps.step t2 b3
    go_wp2_with fail
    refine (toTermS_any (h1.below t3) s1').mono ?_
    rintro e w4 ⟨u4, rfl, f4, b4⟩
    have z4 := b4.size
    have t4 := Keeps.step t3 b4
    have f3 := f3.below b4
    go_wp2_with fail
    refine (toIntS_any (h2.below t4) s2').mono ?_
    rintro e w5 ⟨u5, rfl, f5, b5⟩
    have z5 := b5.size
    have t5 := Keeps.step t4 b5
    have f3 := f3.below b5
    have f4 := f4.below b5
    go_wp2_with fail
    refine (scaleHeckeSpec f3.any f4.any f5.any s0' s1 s2).mono ?_
    rintro e w6 ⟨u6_0, rfl, f6_0, b6⟩
    have z6 := b6.size
    have t6 := Keeps.step t5 b6
    have f3 := f3.below b6
    have f4 := f4.below b6
    have f5 := f5.below b6
    have f6_0 := RT.old (f6_0.any)
    go_wp2_with fail
    refine (toIntSS_any (h0.below t6) s0').mono ?_
    rintro e w7 ⟨u7, rfl, f7, b7⟩
    have z7 := b7.size
    have t7 := Keeps.step t6 b7
    have f6_0 := f6_0.below b7
    go_wp2_with fail
    refine (toTermS_any (h1.below t7) s1').mono ?_
    rintro e w8 ⟨u8, rfl, f8, b8⟩
    have z8 := b8.size
    have t8 := Keeps.step t7 b8
    have f6_0 := f6_0.below b8
    have f7 := f7.below b8
    go_wp2_with fail
    refine (toIntS_any (h2.below t8) s2').mono ?_
    rintro e w9 ⟨u9, rfl, f9, b9⟩
    have z9 := b9.size
    have t9 := Keeps.step t8 b9
    have f6_0 := f6_0.below b9
    have f7 := f7.below b9
    have f8 := f8.below b9
    go_wp2_with fail
    refine (scaleHeckeImpl f7.any f8.any f9.any s0' s1 s2).mono ?_
    rintro e w10 ⟨v10_0, rfl, g10_0, b10⟩
    have z10 := b10.size
    have t10 := Keeps.step t9 b10
    have f6_0 := f6_0.below b10
    have f7 := f7.below b10
    have f8 := f8.below b10
    have f9 := f9.below b10
    have sr0 : totalT (scR L0 L2 L1) ≤ 8388608 := by have := scR_total L0 L2 L1; omega
    have sr0' : totalT (scR L0 L2 L1) ≤ 16777216 := by omega
    go_wp2_with fail
    refine (eqTermS_same g10_0.any f6_0.any sr0').mono ?_
    rintro e w11 ⟨rfl, b11⟩
    have z11 := b11.size
    have t11 := Keeps.step t10 b11
    have f6_0 := f6_0.below b11
    have f7 := f7.below b11
    have f8 := f8.below b11
    have f9 := f9.below b11
    have g10_0 := g10_0.below b11
    go_wp2_with fail
    refine (toIntSS_any (h0.below t11) s0').mono ?_
    rintro e w12 ⟨u12, rfl, f12, b12⟩
    have z12 := b12.size
    have t12 := Keeps.step t11 b12
    have f6_0 := f6_0.below b12
    have f7 := f7.below b12
    have f8 := f8.below b12
    have f9 := f9.below b12
    have g10_0 := g10_0.below b12
    go_wp2_with fail
    refine (eqIntSS_same f7.any f12.any s0').mono ?_
    rintro e w13 ⟨rfl, m13⟩
    have b13 := below_quiet m13
    clear m13
    have z13 := b13.size
    have t13 := Keeps.step t12 b13
    have f6_0 := f6_0.below b13
    have f7 := f7.below b13
    have f8 := f8.below b13
    have f9 := f9.below b13
    have g10_0 := g10_0.below b13
    go_wp2_with fail
    refine (toTermS_any (h1.below t13) s1').mono ?_
    rintro e w14 ⟨u14, rfl, f14, b14⟩
    have z14 := b14.size
    have t14 := Keeps.step t13 b14
    have f6_0 := f6_0.below b14
    have f7 := f7.below b14
    have f8 := f8.below b14
    have f9 := f9.below b14
    have g10_0 := g10_0.below b14
    go_wp2_with fail
    refine (eqTermS_same f8.any f14.any s1').mono ?_
    rintro e w15 ⟨rfl, b15⟩
    have z15 := b15.size
    have t15 := Keeps.step t14 b15
    have f6_0 := f6_0.below b15
    have f7 := f7.below b15
    have f8 := f8.below b15
    have f9 := f9.below b15
    have g10_0 := g10_0.below b15
    go_wp2_with fail
    refine (toIntS_any (h2.below t15) s2').mono ?_
    rintro e w16 ⟨u16, rfl, f16, b16⟩
    have z16 := b16.size
    have t16 := Keeps.step t15 b16
    have f6_0 := f6_0.below b16
    have f7 := f7.below b16
    have f8 := f8.below b16
    have f9 := f9.below b16
    have g10_0 := g10_0.below b16
    go_wp2_with fail
    refine (eqIntS_same f9.any f16.any s2').mono ?_
    rintro e w17 ⟨rfl, m17⟩
    have b17 := below_quiet m17
    clear m17
    have z17 := b17.size
    have t17 := Keeps.step t16 b17
    have f6_0 := f6_0.below b17
    have f7 := f7.below b17
    have f8 := f8.below b17
    have f9 := f9.below b17
    have g10_0 := g10_0.below b17
    have e0 : (L0.map List.length).sum ≤ 1048576 := by unfold total at s0; omega
    go_wp2_with fail
    refine (markIntSS_f f7 1 (by omega)).mono ?_
    rintro e w18 ⟨rfl, -, o18⟩
    have z18 := o18.size_le
    have y18 := o18.size_ge
    have t18 := t17.trans (o18.below (B := w.heap.size) (fun b hb => by have := hb.1; omega))
    have f6_0 := f6_0.only o18 (fun b hb hb' => by have h1 := hb.1; have h2 := hb.2; have h3 := hb'.1; have h4 := hb'.2; omega)
    have f8 := f8.only o18 (fun b hb hb' => by have h1 := hb.1; have h2 := hb.2; have h3 := hb'.1; have h4 := hb'.2; omega)
    have f9 := f9.only o18 (fun b hb hb' => by have h1 := hb.1; have h2 := hb.2; have h3 := hb'.1; have h4 := hb'.2; omega)
    have g10_0 := g10_0.only o18 (fun b hb hb' => by have h1 := hb.1; have h2 := hb.2; have h3 := hb'.1; have h4 := hb'.2; omega)
    clear o18
    generalize hK1 : 1 + (L0.map List.length).sum = K1 at *
    have HK1 : K1 ≤ 1 + 1 * 1048576 := by omega
    clear hK1
    have e1 : ((flatT L1).map List.length).sum ≤ 1048576 := by unfold totalT at s1; omega
    go_wp2_with fail
    refine (markTermS_f f8 K1 (by omega)).mono ?_
    rintro e w19 ⟨rfl, -, o19⟩
    have z19 := o19.size_le
    have y19 := o19.size_ge
    have t19 := t18.trans (o19.below (B := w.heap.size) (fun b hb => by have := hb.1; omega))
    have f6_0 := f6_0.only o19 (fun b hb hb' => by have h1 := hb.1; have h2 := hb.2; have h3 := hb'.1; have h4 := hb'.2; omega)
    have f9 := f9.only o19 (fun b hb hb' => by have h1 := hb.1; have h2 := hb.2; have h3 := hb'.1; have h4 := hb'.2; omega)
    have g10_0 := g10_0.only o19 (fun b hb hb' => by have h1 := hb.1; have h2 := hb.2; have h3 := hb'.1; have h4 := hb'.2; omega)
    clear o19
    generalize hK2 : K1 + ((flatT L1).map List.length).sum = K2 at *
    have HK2 : K2 ≤ 1 + 2 * 1048576 := by omega
    clear hK2
    have e2 : L2.length ≤ 1048576 := s2
    go_wp2_with fail
    refine (markIntS_f f9 K2 (by omega)).mono ?_
    rintro e w20 ⟨rfl, -, o20⟩
    have z20 := o20.size_le
    have y20 := o20.size_ge
    have t20 := t19.trans (o20.below (B := w.heap.size) (fun b hb => by have := hb.1; omega))
    have f6_0 := f6_0.only o20 (fun b hb hb' => by have h1 := hb.1; have h2 := hb.2; have h3 := hb'.1; have h4 := hb'.2; omega)
    have g10_0 := g10_0.only o20 (fun b hb hb' => by have h1 := hb.1; have h2 := hb.2; have h3 := hb'.1; have h4 := hb'.2; omega)
    clear o20
    generalize hK3 : K2 + L2.length = K3 at *
    have HK3 : K3 ≤ 1 + 3 * 1048576 := by omega
    clear hK3
    go_wp2_with fail
    refine (eqTermS_same g10_0.any f6_0.any sr0').mono ?_
    rintro e w21 ⟨rfl, b21⟩
    have z21 := b21.size
    have t21 := Keeps.step t20 b21
    have f6_0 := f6_0.below b21
    have g10_0 := g10_0.below b21
    go_wp2_with fail
    refine (markTermS_f g10_0 1 (by omega)).mono ?_
    rintro e w22 ⟨rfl, M0, o22⟩
    have z22 := o22.size_le
    have y22 := o22.size_ge
    have t22 := t21.trans (o22.below (B := w.heap.size) (fun b hb => by have := hb.1; omega))
    have f6_0 := f6_0.only o22 (fun b hb hb' => by have h1 := hb.1; have h2 := hb.2; have h3 := hb'.1; have h4 := hb'.2; omega)
    clear o22
    generalize hZ1 : 1 + ((flatT (scR L0 L2 L1)).map List.length).sum = Z1 at *
    have eZ1 : Z1 ≤ 1 + 1 * 8388608 := by have := marked_leT (scR L0 L2 L1); omega
    have HZ1 := Lib.hid hZ1
    clear hZ1
    go_wp2_with fail
    refine (heldTermS_f M0 (by omega)).mono ?_
    rw [HZ1.out]
    rintro e w23 ⟨rfl, m23⟩
    have b23 := below_quiet m23
    clear m23
    have z23 := b23.size
    have t23 := Keeps.step t22 b23
    have f6_0 := f6_0.below b23
    have M0 := M0.below b23
    go_wp2_with fail
    refine (toIntSS_any (h0.below t23) s0').mono ?_
    rintro e w24 ⟨u24, rfl, f24, b24⟩
    have z24 := b24.size
    have t24 := Keeps.step t23 b24
    have f6_0 := f6_0.below b24
    have M0 := M0.below b24
    go_wp2_with fail
    refine (toTermS_any (h1.below t24) s1').mono ?_
    rintro e w25 ⟨u25, rfl, f25, b25⟩
    have z25 := b25.size
    have t25 := Keeps.step t24 b25
    have f6_0 := f6_0.below b25
    have M0 := M0.below b25
    have f24 := f24.below b25
    go_wp2_with fail
    refine (toIntS_any (h2.below t25) s2').mono ?_
    rintro e w26 ⟨u26, rfl, f26, b26⟩
    have z26 := b26.size
    have t26 := Keeps.step t25 b26
    have f6_0 := f6_0.below b26
    have M0 := M0.below b26
    have f24 := f24.below b26
    have f25 := f25.below b26
    go_wp2_with fail
    refine (scaleHeckeImpl f24.any f25.any f26.any s0' s1 s2).mono ?_
    rintro e w27 ⟨p27_0, rfl, d27_0, b27⟩
    have z27 := b27.size
    have t27 := Keeps.step t26 b27
    have f6_0 := f6_0.below b27
    have M0 := M0.below b27
    go_wp2_with fail
    refine (eqTermS_same d27_0.any f6_0.any sr0').mono ?_
    rintro e w28 ⟨rfl, b28⟩
    have z28 := b28.size
    have t28 := Keeps.step t27 b28
    have f6_0 := f6_0.below b28
    have M0 := M0.below b28
    have d27_0 := d27_0.below b28
    go_wp2_with fail
    refine (heldTermS_f M0 (by omega)).mono ?_
    rw [HZ1.out]
    rintro e w29 ⟨rfl, m29⟩
    have b29 := below_quiet m29
    clear m29
    have z29 := b29.size
    have t29 := Keeps.step t28 b29
    have M0 := M0.below b29
    go_wp2
    go_ret
    exact ⟨rfl, t29⟩
  · go_enter Try.func3, Try.ntmps3
    go_wp2
    go_ret
    exact ⟨rfl, Below.refl _ _⟩
end Go.Proofs.Ytfpjojlkodglnaa
