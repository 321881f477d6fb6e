/- The program's IsDominant returns what the reference's returns: the walk of the law. Condition: none. -/
import Derived.Test.YtdgphhbgedfkfaaLawInts
import Derived.Test.YtdgphhbgedfkfaaDom
import Derived.Test.YtdgphhbgedfkfaaOpen
namespace Go.Proofs.Ytdgphhbgedfkfaa
open Go.RowKit

set_option maxHeartbeats 4000000 in
set_option maxRecDepth 100000 in
theorem lawIsDominant {v0 : Value} {L0 : List Int} {w : World} (r0 : RIW w v0 L0) :
    Calls Try.prog 4 #[v0] w fun e w' => e = .returned (.bool true) ∧ Below w.heap.size w w' := by
  have h0 := RIW.plain r0
  have wf0 := Lib.hid (RIW.wf r0)
  clear r0
  obtain ⟨a0, c0, rfl⟩ := h0.form
  generalize hn0 : L0.length = n0 at *
  have H0 := Lib.hid hn0
  clear hn0
  by_cases c100 : n0 ≤ 1048576
  · have s0 : L0.length ≤ 1048576 := by have := H0.out; omega
    go_enter Try.func4, Try.ntmps4
    have s0' : L0.length ≤ 16777216 := by omega
    go_wp2_with fail
    refine (toIntS_any h0 s0').mono ?_
    rintro e w1 ⟨u1, rfl, f1, b1⟩
    have z1 := b1.size
    have t1 := b1
    go_wp2_with fail
    refine (isDominantSpec f1.any s0').mono ?_
    rintro e w2 ⟨rfl, m2⟩
    have b2 := below_same m2
    clear m2
    have z2 := b2.size
    have t2 := Keeps.step t1 b2
    have f1 := f1.below b2
    go_wp2_with fail
    refine (toIntS_any (h0.below t2) s0').mono ?_
    rintro e w3 ⟨u3, rfl, f3, b3⟩
    have z3 := b3.size
    have t3 := Keeps.step t2 b3
    go_wp2_with fail
    refine (isDominantImpl f3.any s0').mono ?_
    rintro e w4 ⟨rfl, m4⟩
    have b4 := below_same m4
    clear m4
    have z4 := b4.size
    have t4 := Keeps.step t3 b4
    have f3 := f3.below b4
    go_wp2_with fail
    refine (toIntS_any (h0.below t4) s0').mono ?_
    rintro e w5 ⟨u5, rfl, f5, b5⟩
    have z5 := b5.size
    have t5 := Keeps.step t4 b5
    have f3 := f3.below b5
    go_wp2_with fail
    refine (eqIntS_same f3.any f5.any s0').mono ?_
    rintro e w6 ⟨rfl, m6⟩
    have b6 := below_quiet m6
    clear m6
    have z6 := b6.size
    have t6 := Keeps.step t5 b6
    have f3 := f3.below b6
    go_wp2
    go_ret
    exact ⟨rfl, t6⟩
  · go_enter Try.func4, Try.ntmps4
    go_wp2
    go_ret
    exact ⟨rfl, Below.refl _ _⟩
end Go.Proofs.Ytdgphhbgedfkfaa
