/- The program's IsHecke returns what the reference's returns: the walk of the law. Condition: none. -/
import Derived.Test.YteglcjembimegaaLawTerm
import Derived.Test.YteglcjembimegaaIsHecke
import Derived.Test.YteglcjembimegaaOpen
namespace Go.Proofs.Yteglcjembimegaa
open Go.RowKit
set_option maxRecDepth 20000

set_option maxHeartbeats 4000000 in
set_option maxRecDepth 100000 in
theorem lawIsHecke {v0 : Value} {L0 : List (List Int)} {v1 : Value} {L1 : List Trm} {w : World} (r0 : RIIW w v0 L0) (r1 : RL2 none Any RTermW w v1 L1) :
    Calls Try.prog 6 #[v0, v1] w fun e w' => e = .returned (.bool true) ∧ Below w.heap.size w w' := by
  have h0 := RIIW.plain r0
  have wf0 := Lib.hid (RIIW.wf r0)
  have h1 := RTermW.plain r1
  clear r0 r1
  go_enter Try.func6, Try.ntmps6
  go_wp2_with fail
  refine (szIntSS_any h0 1048576 (by omega) (by omega)).mono ?_
  rintro e w1 ⟨⟨q1, rfl, Q1⟩, m1⟩
  have b1 := below_same m1
  clear m1
  have z1 := b1.size
  have t1 := b1
  rcases Q1 with Q1 | ⟨Q1, E1⟩
  · go_wp2
    go_ret
    exact ⟨rfl, t1⟩
  have s0 : total L0 ≤ 1048576 := by omega
  have G1 : q1 ≤ 1048576 := by omega
  clear E1
  go_wp2_with fail
  refine (szTermS_any (h1.below t1) q1 (by omega) (by omega)).mono ?_
  rintro e w2 ⟨⟨q2, rfl, Q2⟩, b2⟩
  have z2 := b2.size
  have t2 := Keeps.step t1 b2
  rcases Q2 with Q2 | ⟨Q2, E2⟩
  · go_wp2
    go_ret
    exact ⟨rfl, t2⟩
  have s1 : totalT L1 ≤ 1048576 := by omega
  have G2 : q2 ≤ 1048576 := by omega
  clear E2
  have s0' : total L0 ≤ 16777216 := by omega
  have s1' : totalT L1 ≤ 16777216 := by omega
  go_wp2_with fail
  refine (toIntSS_any (h0.below t2) s0').mono ?_
  rintro e w3 ⟨u3, rfl, f3, b3⟩
  have z3 := b3.size
  have t3 := Keeps.step t2 b3
  go_wp2_with fail
  refine (toTermS_any (h1.below t3) s1').mono ?_
  rintro e w4 ⟨u4, rfl, f4, b4⟩
  have z4 := b4.size
  have t4 := Keeps.step t3 b4
  have f3 := f3.below b4
  go_wp2_with fail
  refine (isHeckeSpec f3.any f4.any s0' s1').mono ?_
  rintro e w5 ⟨rfl, b5⟩
  have z5 := b5.size
  have t5 := Keeps.step t4 b5
  have f3 := f3.below b5
  have f4 := f4.below b5
  go_wp2_with fail
  refine (toIntSS_any (h0.below t5) s0').mono ?_
  rintro e w6 ⟨u6, rfl, f6, b6⟩
  have z6 := b6.size
  have t6 := Keeps.step t5 b6
  go_wp2_with fail
  refine (toTermS_any (h1.below t6) s1').mono ?_
  rintro e w7 ⟨u7, rfl, f7, b7⟩
  have z7 := b7.size
  have t7 := Keeps.step t6 b7
  have f6 := f6.below b7
  go_wp2_with fail
  refine (isHeckeImpl f6.any f7.any s0' s1').mono ?_
  rintro e w8 ⟨rfl, b8⟩
  have z8 := b8.size
  have t8 := Keeps.step t7 b8
  have f6 := f6.below b8
  have f7 := f7.below b8
  go_wp2_with fail
  refine (toIntSS_any (h0.below t8) s0').mono ?_
  rintro e w9 ⟨u9, rfl, f9, b9⟩
  have z9 := b9.size
  have t9 := Keeps.step t8 b9
  have f6 := f6.below b9
  have f7 := f7.below b9
  go_wp2_with fail
  refine (eqIntSS_same f6.any f9.any s0').mono ?_
  rintro e w10 ⟨rfl, m10⟩
  have b10 := below_quiet m10
  clear m10
  have z10 := b10.size
  have t10 := Keeps.step t9 b10
  have f6 := f6.below b10
  have f7 := f7.below b10
  go_wp2_with fail
  refine (toTermS_any (h1.below t10) s1').mono ?_
  rintro e w11 ⟨u11, rfl, f11, b11⟩
  have z11 := b11.size
  have t11 := Keeps.step t10 b11
  have f7 := f7.below b11
  go_wp2_with fail
  refine (eqTermS_same f7.any f11.any s1').mono ?_
  rintro e w12 ⟨rfl, b12⟩
  have z12 := b12.size
  have t12 := Keeps.step t11 b12
  have f7 := f7.below b12
  go_wp2
  go_ret
  exact ⟨rfl, t12⟩
end Go.Proofs.Yteglcjembimegaa
