/- The program's CountInvolutions returns what the reference's returns: the walk of the law. Condition: none. -/
import Derived.Test.YtipjomdldjbenaaGreatDoorJLawRows
import Derived.Test.YtipjomdldjbenaaGreatDoorJGNm
import Derived.Test.YtipjomdldjbenaaGreatDoorJOpen
namespace Go.Proofs.YtipjomdldjbenaaGreatDoor
open Go.RowKit
set_option maxRecDepth 20000

set_option maxHeartbeats 4000000 in
set_option maxRecDepth 100000 in
theorem lawCountInvolutions {v0 : Value} {L0 : List (List Int)} {w : World} (r0 : RIIW w v0 L0) (hm0 : HasM w) :
    Calls Tryz.prog 3 #[v0] w fun e w' => e = .returned (.bool true) ∧ Below w.heap.size w w' := by
  have h0 := RIIW.plain r0
  have wf0 := Lib.hid (RIIW.wf r0)
  have HM := Lib.hid hm0
  clear hm0
  clear r0
  go_enter Tryz.func3, Tryz.ntmps3
  go_wp2_with fail
  refine (szIntSS_any h0 1048576 (by omega) (by omega)).mono ?_
  rintro e w1 ⟨⟨q1, rfl, Q1⟩, m1⟩
  have b1 := below_same m1
  clear m1
  have z1 := b1.size
  have t1 := b1
  rcases Q1 with Q1 | ⟨Q1, E1⟩
  · go_wp2
    go_ret
    exact ⟨rfl, t1⟩
  have s0 : total L0 ≤ 1048576 := by omega
  have G1 : q1 ≤ 1048576 := by omega
  clear E1
  have s0' : total L0 ≤ 16777216 := by omega
  go_wp2_with fail
  refine (toIntSS_any (h0.below t1) s0').mono ?_
  rintro e w2 ⟨u2, rfl, f2, b2⟩
  have z2 := b2.size
  have t2 := Keeps.step t1 b2
  go_wp2_with fail
  refine (countSpec f2.any s0').mono ?_
  rintro e w3 ⟨rfl, b3⟩
  have z3 := b3.size
  have t3 := Keeps.step t2 b3
  have f2 := f2.below b3
  go_wp2_with fail
  refine (toIntSS_any (h0.below t3) s0').mono ?_
  rintro e w4 ⟨u4, rfl, f4, b4⟩
  have z4 := b4.size
  have t4 := Keeps.step t3 b4
  go_wp2_with fail
  refine (countImpl' f4.any s0' (HM.out.below t4)).mono ?_
  rintro e w5 ⟨rfl, b5⟩
  have z5 := b5.size
  have t5 := Keeps.step t4 b5
  have f4 := f4.below b5
  go_wp2_with fail
  refine (toIntSS_any (h0.below t5) s0').mono ?_
  rintro e w6 ⟨u6, rfl, f6, b6⟩
  have z6 := b6.size
  have t6 := Keeps.step t5 b6
  have f4 := f4.below b6
  go_wp2_with fail
  refine (eqIntSS_same f4.any f6.any s0').mono ?_
  rintro e w7 ⟨rfl, m7⟩
  have b7 := below_quiet m7
  clear m7
  have z7 := b7.size
  have t7 := Keeps.step t6 b7
  have f4 := f4.below b7
  go_wp2
  go_ret
  exact ⟨rfl, t7⟩
end Go.Proofs.YtipjomdldjbenaaGreatDoor
