/- The program's MulHecke returns what the reference's returns: the walk of the law. Condition: none. -/
import Derived.Test.YtfpjojlkodglnaaJLawTerm
import Derived.Test.YtfpjojlkodglnaaJGMulH
import Derived.Test.YtfpjojlkodglnaaJOpen
namespace Go.Proofs.Ytfpjojlkodglnaa
open Go.RowKit
set_option maxRecDepth 20000

set_option maxHeartbeats 4000000 in
set_option maxRecDepth 100000 in
theorem lawMulHecke {v0 : Value} {L0 : List (List Int)} {v1 : Value} {L1 : List Trm} {v2 : Value} {L2 : List Trm} {w : World} (r0 : RIIW w v0 L0) (r1 : RL2 none Any RTermW w v1 L1) (r2 : RL2 none Any RTermW w v2 L2) :
    Calls Try.prog 6 #[v0, v1, v2] w fun e w' => e = .returned (.bool true) ∧ Below w.heap.size w w' := by
  have h0 := RIIW.plain r0
  have wf0 := Lib.hid (RIIW.wf r0)
  have h1 := RTermW.plain r1
  have wf1 := Lib.hid (termW_in r1)
  have h2 := RTermW.plain r2
  have wf2 := Lib.hid (termW_in r2)
  clear r0 r1 r2
  go_enter Try.func6, Try.ntmps6
  go_wp2_with fail
  refine (szIntSS_any h0 1048576 (by omega) (by omega)).mono ?_
  rintro e w1 ⟨⟨q1, rfl, Q1⟩, m1⟩
  have b1 := below_same m1
  clear m1
  have z1 := b1.size
  have t1 := b1
  rcases Q1 with Q1 | ⟨Q1, E1⟩
  · go_wp2
    go_ret
    exact ⟨rfl, t1⟩
  have s0 : total L0 ≤ 1048576 := by omega
  have G1 : q1 ≤ 1048576 := by omega
  clear E1
  go_wp2_with fail
  refine (szTermS_any (h1.below t1) q1 (by omega) (by omega)).mono ?_
  rintro e w2 ⟨⟨q2, rfl, Q2⟩, b2⟩
  have z2 := b2.size
  have t2 := Keeps.step t1 b2
  rcases Q2 with Q2 | ⟨Q2, E2⟩
  · go_wp2
    go_ret
    exact ⟨rfl, t2⟩
  have s1 : totalT L1 ≤ 1048576 := by omega
  have G2 : q2 ≤ 1048576 := by omega
  clear E2
  go_wp2_with fail
  refine (szTermS_any (h2.below t2) q2 (by omega) (by omega)).mono ?_
  rintro e w3 ⟨⟨q3, rfl, Q3⟩, b3⟩
  have z3 := b3.size
  have t3 := Keeps.step t2 b3
  rcases Q3 with Q3 | ⟨Q3, E3⟩
  · go_wp2
    go_ret
    exact ⟨rfl, t3⟩
  have s2 : totalT L2 ≤ 1048576 := by omega
  have G3 : q3 ≤ 1048576 := by omega
  clear E3
  have s0' : total L0 ≤ 16777216 := by omega
  have s1' : totalT L1 ≤ 16777216 := by omega
  have s2' : totalT L2 ≤ 16777216 := by omega
  go_wp2_with fail
  refine (toIntSS_any (h0.below t3) s0').mono ?_
  rintro e w4 ⟨u4, rfl, f4, b4⟩
  have z4 := b4.size
  have t4 := Keeps.step t3 b4
  go_wp2_with fail
  refine (toTermS_any (h1.below t4) s1').mono ?_
  rintro e w5 ⟨u5, rfl, f5, b5⟩
  have z5 := b5.size
  have t5 := Keeps.step t4 b5
  have f4 := f4.below b5
  go_wp2_with fail
  refine (toTermS_any (h2.below t5) s2').mono ?_
  rintro e w6 ⟨u6, rfl, f6, b6⟩
  have z6 := b6.size
  have t6 := Keeps.step t5 b6
  have f4 := f4.below b6
  have f5 := f5.below b6
  go_wp2_with fail
  refine (mulHeckeSpec f4.any f5.any f6.any s0' s1 s2 wf1.out wf2.out).mono ?_
  rintro e w7 ⟨u7_0, rfl, f7_0, b7⟩
  have z7 := b7.size
  have t7 := Keeps.step t6 b7
  have f4 := f4.below b7
  have f5 := f5.below b7
  have f6 := f6.below b7
  have f7_0 := RT.old (f7_0.any)
  go_wp2_with fail
  refine (toIntSS_any (h0.below t7) s0').mono ?_
  rintro e w8 ⟨u8, rfl, f8, b8⟩
  have z8 := b8.size
  have t8 := Keeps.step t7 b8
  have f7_0 := f7_0.below b8
  go_wp2_with fail
  refine (toTermS_any (h1.below t8) s1').mono ?_
  rintro e w9 ⟨u9, rfl, f9, b9⟩
  have z9 := b9.size
  have t9 := Keeps.step t8 b9
  have f7_0 := f7_0.below b9
  have f8 := f8.below b9
  go_wp2_with fail
  refine (toTermS_any (h2.below t9) s2').mono ?_
  rintro e w10 ⟨u10, rfl, f10, b10⟩
  have z10 := b10.size
  have t10 := Keeps.step t9 b10
  have f7_0 := f7_0.below b10
  have f8 := f8.below b10
  have f9 := f9.below b10
  go_wp2_with fail
  refine (mulHeckeImpl f8.any f9.any f10.any s0' s1 s2 wf1.out wf2.out).mono ?_
  rintro e w11 ⟨v11_0, rfl, g11_0, b11⟩
  have z11 := b11.size
  have t11 := Keeps.step t10 b11
  have f7_0 := f7_0.below b11
  have f8 := f8.below b11
  have f9 := f9.below b11
  have f10 := f10.below b11
  have sr0 : totalT (mhR L0 L1 L2) ≤ 8388608 := by have := mhR_total L0 L1 L2; omega
  have sr0' : totalT (mhR L0 L1 L2) ≤ 16777216 := by omega
  go_wp2_with fail
  refine (eqTermS_same g11_0.any f7_0.any sr0').mono ?_
  rintro e w12 ⟨rfl, b12⟩
  have z12 := b12.size
  have t12 := Keeps.step t11 b12
  have f7_0 := f7_0.below b12
  have f8 := f8.below b12
  have f9 := f9.below b12
  have f10 := f10.below b12
  have g11_0 := g11_0.below b12
  go_wp2_with fail
  refine (toIntSS_any (h0.below t12) s0').mono ?_
  rintro e w13 ⟨u13, rfl, f13, b13⟩
  have z13 := b13.size
  have t13 := Keeps.step t12 b13
  have f7_0 := f7_0.below b13
  have f8 := f8.below b13
  have f9 := f9.below b13
  have f10 := f10.below b13
  have g11_0 := g11_0.below b13
  go_wp2_with fail
  refine (eqIntSS_same f8.any f13.any s0').mono ?_
  rintro e w14 ⟨rfl, m14⟩
  have b14 := below_quiet m14
  clear m14
  have z14 := b14.size
  have t14 := Keeps.step t13 b14
  have f7_0 := f7_0.below b14
  have f8 := f8.below b14
  have f9 := f9.below b14
  have f10 := f10.below b14
  have g11_0 := g11_0.below b14
  go_wp2_with fail
  refine (toTermS_any (h1.below t14) s1').mono ?_
  rintro e w15 ⟨u15, rfl, f15, b15⟩
  have z15 := b15.size
  have t15 := Keeps.step t14 b15
  have f7_0 := f7_0.below b15
  have f8 := f8.below b15
  have f9 := f9.below b15
  have f10 := f10.below b15
  have g11_0 := g11_0.below b15
  go_wp2_with fail
  refine (eqTermS_same f9.any f15.any s1').mono ?_
  rintro e w16 ⟨rfl, b16⟩
  have z16 := b16.size
  have t16 := Keeps.step t15 b16
  have f7_0 := f7_0.below b16
  have f8 := f8.below b16
  have f9 := f9.below b16
  have f10 := f10.below b16
  have g11_0 := g11_0.below b16
  go_wp2_with fail
  refine (toTermS_any (h2.below t16) s2').mono ?_
  rintro e w17 ⟨u17, rfl, f17, b17⟩
  have z17 := b17.size
  have t17 := Keeps.step t16 b17
  have f7_0 := f7_0.below b17
  have f8 := f8.below b17
  have f9 := f9.below b17
  have f10 := f10.below b17
  have g11_0 := g11_0.below b17
  go_wp2_with fail
  refine (eqTermS_same f10.any f17.any s2').mono ?_
  rintro e w18 ⟨rfl, b18⟩
  have z18 := b18.size
  have t18 := Keeps.step t17 b18
  have f7_0 := f7_0.below b18
  have f8 := f8.below b18
  have f9 := f9.below b18
  have f10 := f10.below b18
  have g11_0 := g11_0.below b18
  have e0 : (L0.map List.length).sum ≤ 1048576 := by unfold total at s0; omega
  go_wp2_with fail
  refine (markIntSS_f f8 1 (by omega)).mono ?_
  rintro e w19 ⟨rfl, -, o19⟩
  have z19 := o19.size_le
  have y19 := o19.size_ge
  have t19 := t18.trans (o19.below (B := w.heap.size) (fun b hb => by have := hb.1; omega))
  have f7_0 := f7_0.only o19 (fun b hb hb' => by have h1 := hb.1; have h2 := hb.2; have h3 := hb'.1; have h4 := hb'.2; omega)
  have f9 := f9.only o19 (fun b hb hb' => by have h1 := hb.1; have h2 := hb.2; have h3 := hb'.1; have h4 := hb'.2; omega)
  have f10 := f10.only o19 (fun b hb hb' => by have h1 := hb.1; have h2 := hb.2; have h3 := hb'.1; have h4 := hb'.2; omega)
  have g11_0 := g11_0.only o19 (fun b hb hb' => by have h1 := hb.1; have h2 := hb.2; have h3 := hb'.1; have h4 := hb'.2; omega)
  clear o19
  generalize hK1 : 1 + (L0.map List.length).sum = K1 at *
  have HK1 : K1 ≤ 1 + 1 * 1048576 := by omega
  clear hK1
  have e1 : ((flatT L1).map List.length).sum ≤ 1048576 := by unfold totalT at s1; omega
  go_wp2_with fail
  refine (markTermS_f f9 K1 (by omega)).mono ?_
  rintro e w20 ⟨rfl, -, o20⟩
  have z20 := o20.size_le
  have y20 := o20.size_ge
  have t20 := t19.trans (o20.below (B := w.heap.size) (fun b hb => by have := hb.1; omega))
  have f7_0 := f7_0.only o20 (fun b hb hb' => by have h1 := hb.1; have h2 := hb.2; have h3 := hb'.1; have h4 := hb'.2; omega)
  have f10 := f10.only o20 (fun b hb hb' => by have h1 := hb.1; have h2 := hb.2; have h3 := hb'.1; have h4 := hb'.2; omega)
  have g11_0 := g11_0.only o20 (fun b hb hb' => by have h1 := hb.1; have h2 := hb.2; have h3 := hb'.1; have h4 := hb'.2; omega)
  clear o20
  generalize hK2 : K1 + ((flatT L1).map List.length).sum = K2 at *
  have HK2 : K2 ≤ 1 + 2 * 1048576 := by omega
  clear hK2
  have e2 : ((flatT L2).map List.length).sum ≤ 1048576 := by unfold totalT at s2; omega
  go_wp2_with fail
  refine (markTermS_f f10 K2 (by omega)).mono ?_
  rintro e w21 ⟨rfl, -, o21⟩
  have z21 := o21.size_le
  have y21 := o21.size_ge
  have t21 := t20.trans (o21.below (B := w.heap.size) (fun b hb => by have := hb.1; omega))
  have f7_0 := f7_0.only o21 (fun b hb hb' => by have h1 := hb.1; have h2 := hb.2; have h3 := hb'.1; have h4 := hb'.2; omega)
  have g11_0 := g11_0.only o21 (fun b hb hb' => by have h1 := hb.1; have h2 := hb.2; have h3 := hb'.1; have h4 := hb'.2; omega)
  clear o21
  generalize hK3 : K2 + ((flatT L2).map List.length).sum = K3 at *
  have HK3 : K3 ≤ 1 + 3 * 1048576 := by omega
  clear hK3
  go_wp2_with fail
  refine (eqTermS_same g11_0.any f7_0.any sr0').mono ?_
  rintro e w22 ⟨rfl, b22⟩
  have z22 := b22.size
  have t22 := Keeps.step t21 b22
  have f7_0 := f7_0.below b22
  have g11_0 := g11_0.below b22
  go_wp2_with fail
  refine (markTermS_f g11_0 1 (by omega)).mono ?_
  rintro e w23 ⟨rfl, M0, o23⟩
  have z23 := o23.size_le
  have y23 := o23.size_ge
  have t23 := t22.trans (o23.below (B := w.heap.size) (fun b hb => by have := hb.1; omega))
  have f7_0 := f7_0.only o23 (fun b hb hb' => by have h1 := hb.1; have h2 := hb.2; have h3 := hb'.1; have h4 := hb'.2; omega)
  clear o23
  generalize hZ1 : 1 + ((flatT (mhR L0 L1 L2)).map List.length).sum = Z1 at *
  have eZ1 : Z1 ≤ 1 + 1 * 8388608 := by have := marked_leT (mhR L0 L1 L2); omega
  have HZ1 := Lib.hid hZ1
  clear hZ1
  go_wp2_with fail
  refine (heldTermS_f M0 (by omega)).mono ?_
  rw [HZ1.out]
  rintro e w24 ⟨rfl, m24⟩
  have b24 := below_quiet m24
  clear m24
  have z24 := b24.size
  have t24 := Keeps.step t23 b24
  have f7_0 := f7_0.below b24
  have M0 := M0.below b24
  go_wp2_with fail
  refine (toIntSS_any (h0.below t24) s0').mono ?_
  rintro e w25 ⟨u25, rfl, f25, b25⟩
  have z25 := b25.size
  have t25 := Keeps.step t24 b25
  have f7_0 := f7_0.below b25
  have M0 := M0.below b25
  go_wp2_with fail
  refine (toTermS_any (h1.below t25) s1').mono ?_
  rintro e w26 ⟨u26, rfl, f26, b26⟩
  have z26 := b26.size
  have t26 := Keeps.step t25 b26
  have f7_0 := f7_0.below b26
  have M0 := M0.below b26
  have f25 := f25.below b26
  go_wp2_with fail
  refine (toTermS_any (h2.below t26) s2').mono ?_
  rintro e w27 ⟨u27, rfl, f27, b27⟩
  have z27 := b27.size
  have t27 := Keeps.step t26 b27
  have f7_0 := f7_0.below b27
  have M0 := M0.below b27
  have f25 := f25.below b27
  have f26 := f26.below b27
  go_wp2_with fail
  refine (mulHeckeImpl f25.any f26.any f27.any s0' s1 s2 wf1.out wf2.out).mono ?_
  rintro e w28 ⟨p28_0, rfl, d28_0, b28⟩
  have z28 := b28.size
  have t28 := Keeps.step t27 b28
  have f7_0 := f7_0.below b28
  have M0 := M0.below b28
  go_wp2_with fail
  refine (eqTermS_same d28_0.any f7_0.any sr0').mono ?_
  rintro e w29 ⟨rfl, b29⟩
  have z29 := b29.size
  have t29 := Keeps.step t28 b29
  have f7_0 := f7_0.below b29
  have M0 := M0.below b29
  have d28_0 := d28_0.below b29
  go_wp2_with fail
  refine (heldTermS_f M0 (by omega)).mono ?_
  rw [HZ1.out]
  rintro e w30 ⟨rfl, m30⟩
  have b30 := below_quiet m30
  clear m30
  have z30 := b30.size
  have t30 := Keeps.step t29 b30
  have M0 := M0.below b30
  go_wp2
  go_ret
  exact ⟨rfl, t30⟩
end Go.Proofs.Ytfpjojlkodglnaa
