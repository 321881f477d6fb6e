/- The program's PairingOf returns what the reference's returns. Condition: none. -/
import Derived.Test.YtdgphhbgedfkfaaPairing
import Derived.Test.YtdgphhbgedfkfaaOpen
namespace Go.Proofs.Ytdgphhbgedfkfaa
open Go.RowKit

set_option maxHeartbeats 400000 in
theorem lawPairing {u v : Value} {l l' : List Int} {w : World} (r0 : RIW w u l) (r0' : RIW w v l') :
    Calls Try.prog 3 #[u, v] w fun e w' => e = .returned (.bool true) ∧ Below w.heap.size w w' := by
  have h0 := r0.plain
  have h0' := r0'.plain
  clear r0 r0'
  obtain ⟨a, cap, rfl⟩ := h0.form
  obtain ⟨a', cap', rfl⟩ := h0'.form
  generalize hn : l.length = n at *
  generalize hn' : l'.length = n' at *
  have H := Lib.hid hn
  have H' := Lib.hid hn'
  clear hn hn'
  by_cases c1 : n ≤ 1048576
  · by_cases c2 : n' ≤ 1048576
    · have hl : l.length ≤ 16777216 := by have := H.out; omega
      have hl' : l'.length ≤ 16777216 := by have := H'.out; omega
      go_enter Try.func3, Try.ntmps3
      go_wp2_with fail
      refine (toIntS_any h0 hl).mono ?_
      rintro e w1 ⟨u1, rfl, f1, b1⟩
      go_wp2_with fail
      refine (toIntS_any (h0'.below b1) hl').mono ?_
      rintro e w2 ⟨u2, rfl, f2, b2⟩
      have t2 := Keeps.step b1 b2
      have f1 := FI.below f1 b2
      go_wp2_with fail
      refine (pairingSpec f1.any f2.any hl hl').mono ?_
      rintro e w3 ⟨rfl, hw3⟩
      have b3 := below_quiet hw3
      clear hw3
      have t3 := Keeps.step t2 b3
      go_wp2_with fail
      refine (toIntS_any (h0.below t3) hl).mono ?_
      rintro e w4 ⟨u4, rfl, f4, b4⟩
      have t4 := Keeps.step t3 b4
      go_wp2_with fail
      refine (toIntS_any (h0'.below t4) hl').mono ?_
      rintro e w5 ⟨u5, rfl, f5, b5⟩
      have t5 := Keeps.step t4 b5
      have f4 := FI.below f4 b5
      go_wp2_with fail
      refine (pairingImpl f4.any f5.any hl hl').mono ?_
      rintro e w6 ⟨rfl, hw6⟩
      have b6 := below_quiet hw6
      clear hw6
      have t6 := Keeps.step t5 b6
      have f4 := FI.below f4 b6
      have f5 := FI.below f5 b6
      go_wp2_with fail
      refine (toIntS_any (h0.below t6) hl).mono ?_
      rintro e w7 ⟨u7, rfl, f7, b7⟩
      have t7 := Keeps.step t6 b7
      have f4 := FI.below f4 b7
      have f5 := FI.below f5 b7
      go_wp2_with fail
      refine (eqIntS_same f4.any f7.any hl).mono ?_
      rintro e w8 ⟨rfl, hw8⟩
      have b8 := below_quiet hw8
      clear hw8
      have t8 := Keeps.step t7 b8
      have f5 := FI.below f5 b8
      go_wp2_with fail
      refine (toIntS_any (h0'.below t8) hl').mono ?_
      rintro e w9 ⟨u9, rfl, f9, b9⟩
      have t9 := Keeps.step t8 b9
      have f5 := FI.below f5 b9
      go_wp2_with fail
      refine (eqIntS_same f5.any f9.any hl').mono ?_
      rintro e w10 ⟨rfl, hw10⟩
      have b10 := below_quiet hw10
      clear hw10
      have t10 := Keeps.step t9 b10
      go_wp2
      go_ret
      exact ⟨rfl, t10⟩
    · go_enter Try.func3, Try.ntmps3
      go_wp2
      go_ret
      exact ⟨rfl, Below.refl _ _⟩
  · go_enter Try.func3, Try.ntmps3
    go_wp2
    go_ret
    exact ⟨rfl, Below.refl _ _⟩
end Go.Proofs.Ytdgphhbgedfkfaa
