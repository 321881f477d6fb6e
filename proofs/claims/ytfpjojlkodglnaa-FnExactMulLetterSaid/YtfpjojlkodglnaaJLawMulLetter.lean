/- The program's MulLetter returns what the reference's returns: the walk of the law. Condition: none. -/
import Derived.Test.YtfpjojlkodglnaaJLawTerm
import Derived.Test.YtfpjojlkodglnaaJGLet
import Derived.Test.YtfpjojlkodglnaaJOpen
namespace Go.Proofs.Ytfpjojlkodglnaa
open Go.RowKit
set_option maxRecDepth 20000

set_option maxHeartbeats 4000000 in
set_option maxRecDepth 100000 in
theorem lawMulLetter {v0 : Value} {L0 : List (List Int)} {n1 : Int} {v2 : Value} {L2 : List Trm} {w : World} (r0 : RIIW w v0 L0) (r1 : I64 n1) (r2 : RL2 none Any RTermW w v2 L2) :
    Calls Try.prog 5 #[v0, .int .i64 n1, v2] w fun e w' => e = .returned (.bool true) ∧ Below w.heap.size w w' := by
  have h0 := RIIW.plain r0
  have wf0 := Lib.hid (RIIW.wf r0)
  have wf1 := Lib.hid r1
  have h2 := RTermW.plain r2
  have wf2 := Lib.hid (termW_in r2)
  clear r0 r1 r2
  go_enter Try.func5, Try.ntmps5
  go_wp2_with fail
  refine (szIntSS_any h0 1048576 (by omega) (by omega)).mono ?_
  rintro e w1 ⟨⟨q1, rfl, Q1⟩, m1⟩
  have b1 := below_same m1
  clear m1
  have z1 := b1.size
  have t1 := b1
  rcases Q1 with Q1 | ⟨Q1, E1⟩
  · go_wp2
    go_ret
    exact ⟨rfl, t1⟩
  have s0 : total L0 ≤ 1048576 := by omega
  have G1 : q1 ≤ 1048576 := by omega
  clear E1
  go_wp2_with fail
  refine (szTermS_any (h2.below t1) q1 (by omega) (by omega)).mono ?_
  rintro e w2 ⟨⟨q2, rfl, Q2⟩, b2⟩
  have z2 := b2.size
  have t2 := Keeps.step t1 b2
  rcases Q2 with Q2 | ⟨Q2, E2⟩
  · go_wp2
    go_ret
    exact ⟨rfl, t2⟩
  have s2 : totalT L2 ≤ 1048576 := by omega
  have G2 : q2 ≤ 1048576 := by omega
  clear E2
  have s0' : total L0 ≤ 16777216 := by omega
  have s2' : totalT L2 ≤ 16777216 := by omega
  go_wp2_with fail
  refine (toIntSS_any (h0.below t2) s0').mono ?_
  rintro e w3 ⟨u3, rfl, f3, b3⟩
  have z3 := b3.size
  have t3 := Keeps.step t2 b3
  go_wp2_with fail
  refine (toTermS_any (h2.below t3) s2').mono ?_
  rintro e w4 ⟨u4, rfl, f4, b4⟩
  have z4 := b4.size
  have t4 := Keeps.step t3 b4
  have f3 := f3.below b4
  go_wp2_with fail
  refine (mulLetterSpec f3.any f4.any s0' s2 wf2.out).mono ?_
  rintro e w5 ⟨u5_0, rfl, f5_0, b5⟩
  have z5 := b5.size
  have t5 := Keeps.step t4 b5
  have f3 := f3.below b5
  have f4 := f4.below b5
  have f5_0 := RT.old (f5_0.any)
  go_wp2_with fail
  refine (toIntSS_any (h0.below t5) s0').mono ?_
  rintro e w6 ⟨u6, rfl, f6, b6⟩
  have z6 := b6.size
  have t6 := Keeps.step t5 b6
  have f5_0 := f5_0.below b6
  go_wp2_with fail
  refine (toTermS_any (h2.below t6) s2').mono ?_
  rintro e w7 ⟨u7, rfl, f7, b7⟩
  have z7 := b7.size
  have t7 := Keeps.step t6 b7
  have f5_0 := f5_0.below b7
  have f6 := f6.below b7
  go_wp2_with fail
  refine (mulLetterImpl f6.any f7.any s0' s2 wf2.out).mono ?_
  rintro e w8 ⟨v8_0, rfl, g8_0, b8⟩
  have z8 := b8.size
  have t8 := Keeps.step t7 b8
  have f5_0 := f5_0.below b8
  have f6 := f6.below b8
  have f7 := f7.below b8
  have sr0 : totalT (mlR L0 n1 L2) ≤ 8388608 := by have := mlR_total L0 n1 L2; omega
  have sr0' : totalT (mlR L0 n1 L2) ≤ 16777216 := by omega
  go_wp2_with fail
  refine (eqTermS_same g8_0.any f5_0.any sr0').mono ?_
  rintro e w9 ⟨rfl, b9⟩
  have z9 := b9.size
  have t9 := Keeps.step t8 b9
  have f5_0 := f5_0.below b9
  have f6 := f6.below b9
  have f7 := f7.below b9
  have g8_0 := g8_0.below b9
  go_wp2_with fail
  refine (toIntSS_any (h0.below t9) s0').mono ?_
  rintro e w10 ⟨u10, rfl, f10, b10⟩
  have z10 := b10.size
  have t10 := Keeps.step t9 b10
  have f5_0 := f5_0.below b10
  have f6 := f6.below b10
  have f7 := f7.below b10
  have g8_0 := g8_0.below b10
  go_wp2_with fail
  refine (eqIntSS_same f6.any f10.any s0').mono ?_
  rintro e w11 ⟨rfl, m11⟩
  have b11 := below_quiet m11
  clear m11
  have z11 := b11.size
  have t11 := Keeps.step t10 b11
  have f5_0 := f5_0.below b11
  have f6 := f6.below b11
  have f7 := f7.below b11
  have g8_0 := g8_0.below b11
  go_wp2_with fail
  refine (toTermS_any (h2.below t11) s2').mono ?_
  rintro e w12 ⟨u12, rfl, f12, b12⟩
  have z12 := b12.size
  have t12 := Keeps.step t11 b12
  have f5_0 := f5_0.below b12
  have f6 := f6.below b12
  have f7 := f7.below b12
  have g8_0 := g8_0.below b12
  go_wp2_with fail
  refine (eqTermS_same f7.any f12.any s2').mono ?_
  rintro e w13 ⟨rfl, b13⟩
  have z13 := b13.size
  have t13 := Keeps.step t12 b13
  have f5_0 := f5_0.below b13
  have f6 := f6.below b13
  have f7 := f7.below b13
  have g8_0 := g8_0.below b13
  have e0 : (L0.map List.length).sum ≤ 1048576 := by unfold total at s0; omega
  go_wp2_with fail
  refine (markIntSS_f f6 1 (by omega)).mono ?_
  rintro e w14 ⟨rfl, -, o14⟩
  have z14 := o14.size_le
  have y14 := o14.size_ge
  have t14 := t13.trans (o14.below (B := w.heap.size) (fun b hb => by have := hb.1; omega))
  have f5_0 := f5_0.only o14 (fun b hb hb' => by have h1 := hb.1; have h2 := hb.2; have h3 := hb'.1; have h4 := hb'.2; omega)
  have f7 := f7.only o14 (fun b hb hb' => by have h1 := hb.1; have h2 := hb.2; have h3 := hb'.1; have h4 := hb'.2; omega)
  have g8_0 := g8_0.only o14 (fun b hb hb' => by have h1 := hb.1; have h2 := hb.2; have h3 := hb'.1; have h4 := hb'.2; omega)
  clear o14
  generalize hK1 : 1 + (L0.map List.length).sum = K1 at *
  have HK1 : K1 ≤ 1 + 1 * 1048576 := by omega
  clear hK1
  have e2 : ((flatT L2).map List.length).sum ≤ 1048576 := by unfold totalT at s2; omega
  go_wp2_with fail
  refine (markTermS_f f7 K1 (by omega)).mono ?_
  rintro e w15 ⟨rfl, -, o15⟩
  have z15 := o15.size_le
  have y15 := o15.size_ge
  have t15 := t14.trans (o15.below (B := w.heap.size) (fun b hb => by have := hb.1; omega))
  have f5_0 := f5_0.only o15 (fun b hb hb' => by have h1 := hb.1; have h2 := hb.2; have h3 := hb'.1; have h4 := hb'.2; omega)
  have g8_0 := g8_0.only o15 (fun b hb hb' => by have h1 := hb.1; have h2 := hb.2; have h3 := hb'.1; have h4 := hb'.2; omega)
  clear o15
  generalize hK2 : K1 + ((flatT L2).map List.length).sum = K2 at *
  have HK2 : K2 ≤ 1 + 2 * 1048576 := by omega
  clear hK2
  go_wp2_with fail
  refine (eqTermS_same g8_0.any f5_0.any sr0').mono ?_
  rintro e w16 ⟨rfl, b16⟩
  have z16 := b16.size
  have t16 := Keeps.step t15 b16
  have f5_0 := f5_0.below b16
  have g8_0 := g8_0.below b16
  go_wp2_with fail
  refine (markTermS_f g8_0 1 (by omega)).mono ?_
  rintro e w17 ⟨rfl, M0, o17⟩
  have z17 := o17.size_le
  have y17 := o17.size_ge
  have t17 := t16.trans (o17.below (B := w.heap.size) (fun b hb => by have := hb.1; omega))
  have f5_0 := f5_0.only o17 (fun b hb hb' => by have h1 := hb.1; have h2 := hb.2; have h3 := hb'.1; have h4 := hb'.2; omega)
  clear o17
  generalize hZ1 : 1 + ((flatT (mlR L0 n1 L2)).map List.length).sum = Z1 at *
  have eZ1 : Z1 ≤ 1 + 1 * 8388608 := by have := marked_leT (mlR L0 n1 L2); omega
  have HZ1 := Lib.hid hZ1
  clear hZ1
  go_wp2_with fail
  refine (heldTermS_f M0 (by omega)).mono ?_
  rw [HZ1.out]
  rintro e w18 ⟨rfl, m18⟩
  have b18 := below_quiet m18
  clear m18
  have z18 := b18.size
  have t18 := Keeps.step t17 b18
  have f5_0 := f5_0.below b18
  have M0 := M0.below b18
  go_wp2_with fail
  refine (toIntSS_any (h0.below t18) s0').mono ?_
  rintro e w19 ⟨u19, rfl, f19, b19⟩
  have z19 := b19.size
  have t19 := Keeps.step t18 b19
  have f5_0 := f5_0.below b19
  have M0 := M0.below b19
  go_wp2_with fail
  refine (toTermS_any (h2.below t19) s2').mono ?_
  rintro e w20 ⟨u20, rfl, f20, b20⟩
  have z20 := b20.size
  have t20 := Keeps.step t19 b20
  have f5_0 := f5_0.below b20
  have M0 := M0.below b20
  have f19 := f19.below b20
  go_wp2_with fail
  refine (mulLetterImpl f19.any f20.any s0' s2 wf2.out).mono ?_
  rintro e w21 ⟨p21_0, rfl, d21_0, b21⟩
  have z21 := b21.size
  have t21 := Keeps.step t20 b21
  have f5_0 := f5_0.below b21
  have M0 := M0.below b21
  go_wp2_with fail
  refine (eqTermS_same d21_0.any f5_0.any sr0').mono ?_
  rintro e w22 ⟨rfl, b22⟩
  have z22 := b22.size
  have t22 := Keeps.step t21 b22
  have f5_0 := f5_0.below b22
  have M0 := M0.below b22
  have d21_0 := d21_0.below b22
  go_wp2_with fail
  refine (heldTermS_f M0 (by omega)).mono ?_
  rw [HZ1.out]
  rintro e w23 ⟨rfl, m23⟩
  have b23 := below_quiet m23
  clear m23
  have z23 := b23.size
  have t23 := Keeps.step t22 b23
  have M0 := M0.below b23
  go_wp2
  go_ret
  exact ⟨rfl, t23⟩
end Go.Proofs.Ytfpjojlkodglnaa
