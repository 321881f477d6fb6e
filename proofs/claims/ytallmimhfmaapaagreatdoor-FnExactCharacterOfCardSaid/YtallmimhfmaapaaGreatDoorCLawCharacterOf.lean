/- The program's CharacterOf returns what the reference's returns: the walk of the law. Condition: none. -/
import Derived.Test.YtallmimhfmaapaaGreatDoorCGMlI
namespace Go.Proofs.YtallmimhfmaapaaGreatDoor
open Go.RowKit
set_option maxRecDepth 20000
set_option maxHeartbeats 8000000
set_option maxRecDepth 100000 in
theorem lawCharacterOf {v0:Value} {L0:List (List Int)} {v1:Value} {L1:List Int} {w:World} (r0:RIIW w v0 L0) (r1:RIW w v1 L1) (hm0:HasM w) :
  Calls Tryz.prog 5 #[v0,v1] w fun e w'=>e=.returned (.bool true)∧Below w.heap.size w w':=by
 have h0:=RIIW.plain r0;have wf0:=zTY (RIIW.wf r0);have h1:=RIW.plain r1;have wf1:=zTY (RIW.wf r1);have HM:=zTY hm0;clear hm0;clear r0 r1;obtain ⟨a1,c1,rfl⟩:=h1.form;generalize hn1:L1.length=n1 at *;have H1:=zTY hn1;clear hn1;by_cases c101:n1≤1048576
 ·have s1:L1.length≤1048576:=by have:=H1.out; omega
  go_enter Tryz.func5,Tryz.ntmps5
  go_wp2_with fail
  refine (zLN h0 1048576 (by omega) (by omega)).mono ?_;rintro e w1 ⟨⟨q1,rfl,Q1⟩,m1⟩;have b1:=zMh m1;clear m1;have z1:=b1.size;have t1:=b1;rcases Q1 with Q1 | ⟨Q1,E1⟩
  ·go_wp2
   go_ret
   exact ⟨rfl,t1⟩
  have s0:zAC L0≤1048576:=by omega
  have G1:q1≤1048576:=by omega
  clear E1;have s0':zAC L0≤16777216:=by omega
  have s1':L1.length≤16777216:=by omega
  go_wp2_with fail
  refine (zDH (h0.below t1) s0').mono ?_;rintro e w2 ⟨u2,rfl,f2,b2⟩;have z2:=b2.size;have t2:=zAA.step t1 b2;go_wp2_with fail
  refine (zCm (h1.below t2) s1').mono ?_;rintro e w3 ⟨u3,rfl,f3,b3⟩;have z3:=b3.size;have t3:=zAA.step t2 b3;have f2:=f2.below b3;go_wp2_with fail
  refine (zQw f2.any f3.any s0' s1').mono ?_;rintro e w4 ⟨u4_0,rfl,f4_0,b4⟩;have z4:=b4.size;have t4:=zAA.step t3 b4;have f2:=f2.below b4;have f3:=f3.below b4;have f4_0:=RW.old (f4_0.any);go_wp2_with fail
  refine (zDH (h0.below t4) s0').mono ?_;rintro e w5 ⟨u5,rfl,f5,b5⟩;have z5:=b5.size;have t5:=zAA.step t4 b5;have f4_0:=f4_0.below b5;go_wp2_with fail
  refine (zCm (h1.below t5) s1').mono ?_;rintro e w6 ⟨u6,rfl,f6,b6⟩;have z6:=b6.size;have t6:=zAA.step t5 b6;have f4_0:=f4_0.below b6;have f5:=f5.below b6;go_wp2_with fail
  refine (zLc f5.any f6.any s0' s1' (HM.out.below t6)).mono ?_;rintro e w7 ⟨v7_0,rfl,g7_0,b7⟩;have z7:=b7.size;have t7:=zAA.step t6 b7;have f4_0:=f4_0.below b7;have f5:=f5.below b7;have f6:=f6.below b7;have sr0:zAF (chaR L0 L1)≤8388608:=by have:=zMl L0 L1; omega
  have sr0':zAF (chaR L0 L1)≤16777216:=by omega
  go_wp2_with fail
  refine (zCY g7_0.any f4_0.any sr0').mono ?_;rintro e w8 ⟨rfl,b8⟩;have z8:=b8.size;have t8:=zAA.step t7 b8;have f4_0:=f4_0.below b8;have f5:=f5.below b8;have f6:=f6.below b8;have g7_0:=g7_0.below b8;go_wp2_with fail
  refine (zDH (h0.below t8) s0').mono ?_;rintro e w9 ⟨u9,rfl,f9,b9⟩;have z9:=b9.size;have t9:=zAA.step t8 b9;have f4_0:=f4_0.below b9;have f5:=f5.below b9;have f6:=f6.below b9;have g7_0:=g7_0.below b9;go_wp2_with fail
  refine (zJe f5.any f9.any s0').mono ?_;rintro e w10 ⟨rfl,m10⟩;have b10:=zAS m10;clear m10;have z10:=b10.size;have t10:=zAA.step t9 b10;have f4_0:=f4_0.below b10;have f5:=f5.below b10;have f6:=f6.below b10;have g7_0:=g7_0.below b10;go_wp2_with fail
  refine (zCm (h1.below t10) s1').mono ?_;rintro e w11 ⟨u11,rfl,f11,b11⟩;have z11:=b11.size;have t11:=zAA.step t10 b11;have f4_0:=f4_0.below b11;have f5:=f5.below b11;have f6:=f6.below b11;have g7_0:=g7_0.below b11;go_wp2_with fail
  refine (zEM f6.any f11.any s1').mono ?_;rintro e w12 ⟨rfl,m12⟩;have b12:=zAS m12;clear m12;have z12:=b12.size;have t12:=zAA.step t11 b12;have f4_0:=f4_0.below b12;have f5:=f5.below b12;have f6:=f6.below b12;have g7_0:=g7_0.below b12;have e0:(L0.map List.length).sum≤1048576:=by unfold zAC at s0; omega
  go_wp2_with fail
  refine (zLC f5 1 (by omega)).mono ?_;rintro e w13 ⟨rfl,-,o13⟩;have z13:=o13.size_le;have y13:=o13.size_ge;have t13:=t12.trans (o13.below (B:=w.heap.size) (fun b hb=>by have:=hb.1; omega));have f4_0:=f4_0.only o13 (fun b hb hb'=>by have h1:=hb.1; have h2:=hb.2; have h3:=hb'.1; have h4:=hb'.2; omega);have f6:=f6.only o13 (fun b hb hb'=>by have h1:=hb.1; have h2:=hb.2; have h3:=hb'.1; have h4:=hb'.2; omega);have g7_0:=g7_0.only o13 (fun b hb hb'=>by have h1:=hb.1; have h2:=hb.2; have h3:=hb'.1; have h4:=hb'.2; omega);clear o13;generalize hK1:1+(L0.map List.length).sum=K1 at *;have HK1:K1≤1+1*1048576:=by omega
  clear hK1;have e1:L1.length≤1048576:=s1;go_wp2_with fail
  refine (zM1 f6 K1 (by omega)).mono ?_;rintro e w14 ⟨rfl,-,o14⟩;have z14:=o14.size_le;have y14:=o14.size_ge;have t14:=t13.trans (o14.below (B:=w.heap.size) (fun b hb=>by have:=hb.1; omega));have f4_0:=f4_0.only o14 (fun b hb hb'=>by have h1:=hb.1; have h2:=hb.2; have h3:=hb'.1; have h4:=hb'.2; omega);have g7_0:=g7_0.only o14 (fun b hb hb'=>by have h1:=hb.1; have h2:=hb.2; have h3:=hb'.1; have h4:=hb'.2; omega);clear o14;generalize hK2:K1+L1.length=K2 at *;have HK2:K2≤1+2*1048576:=by omega
  clear hK2;go_wp2_with fail
  refine (zCY g7_0.any f4_0.any sr0').mono ?_;rintro e w15 ⟨rfl,b15⟩;have z15:=b15.size;have t15:=zAA.step t14 b15;have f4_0:=f4_0.below b15;have g7_0:=g7_0.below b15;go_wp2_with fail
  refine (zHM g7_0 1 (by omega)).mono ?_;rintro e w16 ⟨rfl,M0,o16⟩;have z16:=o16.size_le;have y16:=o16.size_ge;have t16:=t15.trans (o16.below (B:=w.heap.size) (fun b hb=>by have:=hb.1; omega));have f4_0:=f4_0.only o16 (fun b hb hb'=>by have h1:=hb.1; have h2:=hb.2; have h3:=hb'.1; have h4:=hb'.2; omega);clear o16;generalize hZ1:1+zCe (chaR L0 L1)=Z1 at *;have eZ1:Z1≤1+1*8388608:=by have:=zM2 (chaR L0 L1); omega
  have HZ1:=zTY hZ1;clear hZ1;go_wp2_with fail
  refine (zED M0 (by omega)).mono ?_;rw [HZ1.out];rintro e w17 ⟨rfl,m17⟩;have b17:=zAS m17;clear m17;have z17:=b17.size;have t17:=zAA.step t16 b17;have f4_0:=f4_0.below b17;have M0:=M0.below b17;go_wp2_with fail
  refine (zDH (h0.below t17) s0').mono ?_;rintro e w18 ⟨u18,rfl,f18,b18⟩;have z18:=b18.size;have t18:=zAA.step t17 b18;have f4_0:=f4_0.below b18;have M0:=M0.below b18;go_wp2_with fail
  refine (zCm (h1.below t18) s1').mono ?_;rintro e w19 ⟨u19,rfl,f19,b19⟩;have z19:=b19.size;have t19:=zAA.step t18 b19;have f4_0:=f4_0.below b19;have M0:=M0.below b19;have f18:=f18.below b19;go_wp2_with fail
  refine (zLc f18.any f19.any s0' s1' (HM.out.below t19)).mono ?_;rintro e w20 ⟨p20_0,rfl,d20_0,b20⟩;have z20:=b20.size;have t20:=zAA.step t19 b20;have f4_0:=f4_0.below b20;have M0:=M0.below b20;go_wp2_with fail
  refine (zCY d20_0.any f4_0.any sr0').mono ?_;rintro e w21 ⟨rfl,b21⟩;have z21:=b21.size;have t21:=zAA.step t20 b21;have f4_0:=f4_0.below b21;have M0:=M0.below b21;have d20_0:=d20_0.below b21;go_wp2_with fail
  refine (zED M0 (by omega)).mono ?_;rw [HZ1.out];rintro e w22 ⟨rfl,m22⟩;have b22:=zAS m22;clear m22;have z22:=b22.size;have t22:=zAA.step t21 b22;have M0:=M0.below b22;go_wp2
  go_ret
  exact ⟨rfl,t22⟩
 ·go_enter Tryz.func5,Tryz.ntmps5
  go_wp2
  go_ret
  exact ⟨rfl,Below.refl _ _⟩
end Go.Proofs.YtallmimhfmaapaaGreatDoor
