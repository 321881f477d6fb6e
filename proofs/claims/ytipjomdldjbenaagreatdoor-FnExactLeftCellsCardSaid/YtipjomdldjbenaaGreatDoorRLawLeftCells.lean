/- The program's LeftCells returns what the reference's returns: the walk of the law. Condition: none. -/
import Derived.Test.YtipjomdldjbenaaGreatDoorRGLawA
import Derived.Test.YtipjomdldjbenaaGreatDoorRGLcI
import Derived.Test.YtipjomdldjbenaaGreatDoorRGOp
namespace Go.Proofs.YtipjomdldjbenaaGreatDoor
open Go.RowKit
set_option maxRecDepth 20000
set_option maxHeartbeats 4000000 in
set_option maxRecDepth 100000 in
theorem lawLeftCells {v0 : Value} {L0 : List (List Int)} {w : World} (r0 : RIIW w v0 L0) (hm0 : HasM w) :
  Calls Tryz.prog 11 #[v0] w fun e w' => e = .returned (.bool true) ∧ Below w.heap.size w w' := by
 have h0 := RIIW.plain r0
 have wf0 := Lib.hid (RIIW.wf r0)
 have HM := Lib.hid hm0
 clear hm0
 clear r0
 go_enter Tryz.func11, Tryz.ntmps11
 go_wp2_with fail
 refine (szIntSS_any h0 1048576 (by omega) (by omega)).mono ?_
 rintro e w1 ⟨⟨q1, rfl, Q1⟩, m1⟩
 have b1 := below_same m1
 clear m1
 have z1 := b1.size
 have t1 := b1
 rcases Q1 with Q1 | ⟨Q1, E1⟩
 ·go_wp2
  go_ret
  exact ⟨rfl, t1⟩
 have s0 : total L0 ≤ 1048576 := by omega
 have G1 : q1 ≤ 1048576 := by omega
 clear E1
 have s0' : total L0 ≤ 16777216 := by omega
 go_wp2_with fail
 refine (toIntSS_any (h0.below t1) s0').mono ?_
 rintro e w2 ⟨u2, rfl, f2, b2⟩
 have z2 := b2.size
 have t2 := Keeps.step t1 b2
 go_wp2_with fail
 refine (lcSpec f2.any s0').mono ?_
 rintro e w3 ⟨u3_0, rfl, f3_0, b3⟩
 have z3 := b3.size
 have t3 := Keeps.step t2 b3
 have f2 := f2.below b3
 have f3_0 := RII.old (f3_0.any)
 go_wp2_with fail
 refine (toIntSS_any (h0.below t3) s0').mono ?_
 rintro e w4 ⟨u4, rfl, f4, b4⟩
 have z4 := b4.size
 have t4 := Keeps.step t3 b4
 have f3_0 := f3_0.below b4
 go_wp2_with fail
 refine (lcImpl f4.any s0' (HM.out.below t4)).mono ?_
 rintro e w5 ⟨v5_0, rfl, g5_0, b5⟩
 have z5 := b5.size
 have t5 := Keeps.step t4 b5
 have f3_0 := f3_0.below b5
 have f4 := f4.below b5
 have sr0 : total (lcR L0) ≤ 8388608 := by have := lcR_total L0; omega
 have sr0' : total (lcR L0) ≤ 16777216 := by omega
 go_wp2_with fail
 refine (eqIntSS_same g5_0.any f3_0.any sr0').mono ?_
 rintro e w6 ⟨rfl, m6⟩
 have b6 := below_quiet m6
 clear m6
 have z6 := b6.size
 have t6 := Keeps.step t5 b6
 have f3_0 := f3_0.below b6
 have f4 := f4.below b6
 have g5_0 := g5_0.below b6
 go_wp2_with fail
 refine (toIntSS_any (h0.below t6) s0').mono ?_
 rintro e w7 ⟨u7, rfl, f7, b7⟩
 have z7 := b7.size
 have t7 := Keeps.step t6 b7
 have f3_0 := f3_0.below b7
 have f4 := f4.below b7
 have g5_0 := g5_0.below b7
 go_wp2_with fail
 refine (eqIntSS_same f4.any f7.any s0').mono ?_
 rintro e w8 ⟨rfl, m8⟩
 have b8 := below_quiet m8
 clear m8
 have z8 := b8.size
 have t8 := Keeps.step t7 b8
 have f3_0 := f3_0.below b8
 have f4 := f4.below b8
 have g5_0 := g5_0.below b8
 have e0 : (L0.map List.length).sum ≤ 1048576 := by unfold total at s0; omega
 go_wp2_with fail
 refine (markIntSS_f f4 1 (by omega)).mono ?_
 rintro e w9 ⟨rfl, -, o9⟩
 have z9 := o9.size_le
 have y9 := o9.size_ge
 have t9 := t8.trans (o9.below (B := w.heap.size) (fun b hb => by have := hb.1; omega))
 have f3_0 := f3_0.only o9 (fun b hb hb' => by have h1 := hb.1; have h2 := hb.2; have h3 := hb'.1; have h4 := hb'.2; omega)
 have g5_0 := g5_0.only o9 (fun b hb hb' => by have h1 := hb.1; have h2 := hb.2; have h3 := hb'.1; have h4 := hb'.2; omega)
 clear o9
 generalize hK1 : 1 + (L0.map List.length).sum = K1 at *
 have HK1 : K1 ≤ 1 + 1 * 1048576 := by omega
 clear hK1
 go_wp2_with fail
 refine (eqIntSS_same g5_0.any f3_0.any sr0').mono ?_
 rintro e w10 ⟨rfl, m10⟩
 have b10 := below_quiet m10
 clear m10
 have z10 := b10.size
 have t10 := Keeps.step t9 b10
 have f3_0 := f3_0.below b10
 have g5_0 := g5_0.below b10
 go_wp2_with fail
 refine (markIntSS_f g5_0 1 (by omega)).mono ?_
 rintro e w11 ⟨rfl, M0, o11⟩
 have z11 := o11.size_le
 have y11 := o11.size_ge
 have t11 := t10.trans (o11.below (B := w.heap.size) (fun b hb => by have := hb.1; omega))
 have f3_0 := f3_0.only o11 (fun b hb hb' => by have h1 := hb.1; have h2 := hb.2; have h3 := hb'.1; have h4 := hb'.2; omega)
 clear o11
 generalize hZ1 : 1 + ((lcR L0).map List.length).sum = Z1 at *
 have eZ1 : Z1 ≤ 1 + 1 * 8388608 := by have := marked_leII (lcR L0); omega
 have HZ1 := Lib.hid hZ1
 clear hZ1
 go_wp2_with fail
 refine (heldIntSS_f M0 (by omega)).mono ?_
 rw [HZ1.out]
 rintro e w12 ⟨rfl, m12⟩
 have b12 := below_quiet m12
 clear m12
 have z12 := b12.size
 have t12 := Keeps.step t11 b12
 have f3_0 := f3_0.below b12
 have M0 := M0.below b12
 go_wp2_with fail
 refine (toIntSS_any (h0.below t12) s0').mono ?_
 rintro e w13 ⟨u13, rfl, f13, b13⟩
 have z13 := b13.size
 have t13 := Keeps.step t12 b13
 have f3_0 := f3_0.below b13
 have M0 := M0.below b13
 go_wp2_with fail
 refine (lcImpl f13.any s0' (HM.out.below t13)).mono ?_
 rintro e w14 ⟨p14_0, rfl, d14_0, b14⟩
 have z14 := b14.size
 have t14 := Keeps.step t13 b14
 have f3_0 := f3_0.below b14
 have M0 := M0.below b14
 go_wp2_with fail
 refine (eqIntSS_same d14_0.any f3_0.any sr0').mono ?_
 rintro e w15 ⟨rfl, m15⟩
 have b15 := below_quiet m15
 clear m15
 have z15 := b15.size
 have t15 := Keeps.step t14 b15
 have f3_0 := f3_0.below b15
 have M0 := M0.below b15
 have d14_0 := d14_0.below b15
 go_wp2_with fail
 refine (heldIntSS_f M0 (by omega)).mono ?_
 rw [HZ1.out]
 rintro e w16 ⟨rfl, m16⟩
 have b16 := below_quiet m16
 clear m16
 have z16 := b16.size
 have t16 := Keeps.step t15 b16
 have M0 := M0.below b16
 go_wp2
 go_ret
 exact ⟨rfl, t16⟩
end Go.Proofs.YtipjomdldjbenaaGreatDoor
