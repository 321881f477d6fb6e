/- The program's MultiplicityOf returns what the reference's returns: the walk of the law. Condition: none. -/
import Derived.Test.YtallmimhfmaapaaGreatDoorJGMlG
namespace Go.Proofs.YtallmimhfmaapaaGreatDoor
open Go.RowKit
set_option maxRecDepth 20000
set_option maxHeartbeats 8000000
set_option maxRecDepth 100000 in
theorem lawMultiplicityOf {v0 : Value} {L0 : List (List Int)} {v1 : Value} {L1 : List Int} {v2 : Value} {L2 : List Int} {w : World} (r0 : RIIW w v0 L0) (r1 : RIW w v1 L1) (r2 : RIW w v2 L2) (hm0 : HasM w) :
  Calls Tryz.prog 3 #[v0, v1, v2] w fun e w' => e = .returned (.bool true) ∧ Below w.heap.size w w' := by
 have h0 := RIIW.plain r0
 have wf0 := zRt (RIIW.wf r0)
 have h1 := RIW.plain r1
 have wf1 := zRt (RIW.wf r1)
 have h2 := RIW.plain r2
 have wf2 := zRt (RIW.wf r2)
 have HM := zRt hm0
 clear hm0
 clear r0 r1 r2
 obtain ⟨a1, c1, rfl⟩ := h1.form
 generalize hn1 : L1.length = n1 at *
 have H1 := zRt hn1
 clear hn1
 obtain ⟨a2, c2, rfl⟩ := h2.form
 generalize hn2 : L2.length = n2 at *
 have H2 := zRt hn2
 clear hn2
 by_cases c101 : n1 ≤ 1048576
 ·by_cases c102 : n2 ≤ 1048576
  ·have s1 : L1.length ≤ 1048576 := by have := H1.out; omega
   have s2 : L2.length ≤ 1048576 := by have := H2.out; omega
   go_enter Tryz.func3, Tryz.ntmps3
   go_wp2_with fail
   refine (zF9 h0 1048576 (by omega) (by omega)).mono ?_
   rintro e w1 ⟨⟨q1, rfl, Q1⟩, m1⟩
   have b1 := zGf m1
   clear m1
   have z1 := b1.size
   have t1 := b1
   rcases Q1 with Q1 | ⟨Q1, E1⟩
   ·go_wp2
    go_ret
    exact ⟨rfl, t1⟩
   have s0 : total L0 ≤ 1048576 := by omega
   have G1 : q1 ≤ 1048576 := by omega
   clear E1
   have s0' : total L0 ≤ 16777216 := by omega
   have s1' : L1.length ≤ 16777216 := by omega
   have s2' : L2.length ≤ 16777216 := by omega
   go_wp2_with fail
   refine (zBf (h0.below t1) s0').mono ?_
   rintro e w2 ⟨u2, rfl, f2, b2⟩
   have z2 := b2.size
   have t2 := zAA.step t1 b2
   go_wp2_with fail
   refine (zA9 (h1.below t2) s1').mono ?_
   rintro e w3 ⟨u3, rfl, f3, b3⟩
   have z3 := b3.size
   have t3 := zAA.step t2 b3
   have f2 := f2.below b3
   go_wp2_with fail
   refine (zA9 (h2.below t3) s2').mono ?_
   rintro e w4 ⟨u4, rfl, f4, b4⟩
   have z4 := b4.size
   have t4 := zAA.step t3 b4
   have f2 := f2.below b4
   have f3 := f3.below b4
   go_wp2_with fail
   refine (zRZ f2.any f3.any f4.any s0' s1' s2').mono ?_
   rintro e w5 ⟨rfl, b5⟩
   have z5 := b5.size
   have t5 := zAA.step t4 b5
   have f2 := f2.below b5
   have f3 := f3.below b5
   have f4 := f4.below b5
   go_wp2_with fail
   refine (zBf (h0.below t5) s0').mono ?_
   rintro e w6 ⟨u6, rfl, f6, b6⟩
   have z6 := b6.size
   have t6 := zAA.step t5 b6
   go_wp2_with fail
   refine (zA9 (h1.below t6) s1').mono ?_
   rintro e w7 ⟨u7, rfl, f7, b7⟩
   have z7 := b7.size
   have t7 := zAA.step t6 b7
   have f6 := f6.below b7
   go_wp2_with fail
   refine (zA9 (h2.below t7) s2').mono ?_
   rintro e w8 ⟨u8, rfl, f8, b8⟩
   have z8 := b8.size
   have t8 := zAA.step t7 b8
   have f6 := f6.below b8
   have f7 := f7.below b8
   go_wp2_with fail
   refine (zRY f6.any f7.any f8.any s0' s1' s2' (HM.out.below t8)).mono ?_
   rintro e w9 ⟨rfl, b9⟩
   have z9 := b9.size
   have t9 := zAA.step t8 b9
   have f6 := f6.below b9
   have f7 := f7.below b9
   have f8 := f8.below b9
   go_wp2_with fail
   refine (zBf (h0.below t9) s0').mono ?_
   rintro e w10 ⟨u10, rfl, f10, b10⟩
   have z10 := b10.size
   have t10 := zAA.step t9 b10
   have f6 := f6.below b10
   have f7 := f7.below b10
   have f8 := f8.below b10
   go_wp2_with fail
   refine (zFE f6.any f10.any s0').mono ?_
   rintro e w11 ⟨rfl, m11⟩
   have b11 := zAQ m11
   clear m11
   have z11 := b11.size
   have t11 := zAA.step t10 b11
   have f6 := f6.below b11
   have f7 := f7.below b11
   have f8 := f8.below b11
   go_wp2_with fail
   refine (zA9 (h1.below t11) s1').mono ?_
   rintro e w12 ⟨u12, rfl, f12, b12⟩
   have z12 := b12.size
   have t12 := zAA.step t11 b12
   have f7 := f7.below b12
   have f8 := f8.below b12
   go_wp2_with fail
   refine (zCQ f7.any f12.any s1').mono ?_
   rintro e w13 ⟨rfl, m13⟩
   have b13 := zAQ m13
   clear m13
   have z13 := b13.size
   have t13 := zAA.step t12 b13
   have f7 := f7.below b13
   have f8 := f8.below b13
   go_wp2_with fail
   refine (zA9 (h2.below t13) s2').mono ?_
   rintro e w14 ⟨u14, rfl, f14, b14⟩
   have z14 := b14.size
   have t14 := zAA.step t13 b14
   have f8 := f8.below b14
   go_wp2_with fail
   refine (zCQ f8.any f14.any s2').mono ?_
   rintro e w15 ⟨rfl, m15⟩
   have b15 := zAQ m15
   clear m15
   have z15 := b15.size
   have t15 := zAA.step t14 b15
   have f8 := f8.below b15
   go_wp2
   go_ret
   exact ⟨rfl, t15⟩
  ·go_enter Tryz.func3, Tryz.ntmps3
   go_wp2
   go_ret
   exact ⟨rfl, Below.refl _ _⟩
 ·go_enter Tryz.func3, Tryz.ntmps3
  go_wp2
  go_ret
  exact ⟨rfl, Below.refl _ _⟩
end Go.Proofs.YtallmimhfmaapaaGreatDoor
