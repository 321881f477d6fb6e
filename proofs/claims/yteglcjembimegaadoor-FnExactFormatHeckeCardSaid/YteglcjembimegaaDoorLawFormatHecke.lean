/- The program's FormatHecke returns what the reference's returns: the walk of the law. Condition: none. -/
import Derived.Test.YteglcjembimegaaDoorFmtH
import Derived.Test.YteglcjembimegaaDoorOpen
namespace Go.Proofs.YteglcjembimegaaDoor
open Go.RowKit
set_option maxRecDepth 20000

set_option maxHeartbeats 4000000 in
set_option maxRecDepth 100000 in
theorem lawFormatHecke {v0 : Value} {L0 : List Trm} {w : World} (r0 : RL2 none Any RTermW w v0 L0) (ht0 : Lib.TabIs Tryd.prog w "internal/strconv.uint64pow10" .u64 Lib.pow10Tab) :
    Calls Tryd.prog 4 #[v0] w fun e w' => e = .returned (.bool true) ∧ Below w.heap.size w w' := by
  have h0 := RTermW.plain r0
  have wf0 := Lib.hid (RTermW.wf r0)
  have HT := Lib.hid (Lib.tabBelow_of_tabIs ht0)
  clear r0 ht0
  go_enter Tryd.func4, Tryd.ntmps4
  go_wp2_with fail
  refine (szTermS_any h0 1048576 (by omega) (by omega)).mono ?_
  rintro e w1 ⟨⟨q1, rfl, Q1⟩, b1⟩
  have z1 := b1.size
  have t1 := b1
  rcases Q1 with Q1 | ⟨Q1, E1⟩
  · go_wp2
    go_ret
    exact ⟨rfl, t1⟩
  have s0 : totalT L0 ≤ 1048576 := by omega
  have wk0 := Lib.hid (tOk_of wf0.out s0)
  have G1 : q1 ≤ 1048576 := by omega
  clear E1
  have s0' : totalT L0 ≤ 16777216 := by omega
  go_wp2_with fail
  refine (toTermS_any (h0.below t1) s0').mono ?_
  rintro e w2 ⟨u2, rfl, f2, b2⟩
  have z2 := b2.size
  have t2 := Keeps.step t1 b2
  go_wp2_with fail
  refine (formatHeckeSpec' f2.any s0' wk0.out).mono ?_
  rintro e w3 ⟨rfl, b3⟩
  have z3 := b3.size
  have t3 := Keeps.step t2 b3
  have f2 := f2.below b3
  go_wp2_with fail
  refine (toTermS_any (h0.below t3) s0').mono ?_
  rintro e w4 ⟨u4, rfl, f4, b4⟩
  have z4 := b4.size
  have t4 := Keeps.step t3 b4
  go_wp2_with fail
  refine (formatHeckeImpl' f4.any s0' wk0.out (HT.out.on t4) t4.size).mono ?_
  rintro e w5 ⟨rfl, b5⟩
  have z5 := b5.size
  have t5 := Keeps.step t4 b5
  have f4 := f4.below b5
  go_wp2_with fail
  refine (toTermS_any (h0.below t5) s0').mono ?_
  rintro e w6 ⟨u6, rfl, f6, b6⟩
  have z6 := b6.size
  have t6 := Keeps.step t5 b6
  have f4 := f4.below b6
  go_wp2_with fail
  refine (eqTermS_same f4.any f6.any s0').mono ?_
  rintro e w7 ⟨rfl, b7⟩
  have z7 := b7.size
  have t7 := Keeps.step t6 b7
  have f4 := f4.below b7
  go_wp2
  go_ret
  exact ⟨rfl, t7⟩
end Go.Proofs.YteglcjembimegaaDoor
