/- The order of elements by the reference (l15Below). -/
import Derived.Test.YtlchafedbnihoaaGreatJGRp
import Derived.Test.YtlchafedbnihoaaGreatJGStar
import Derived.Deep.RegionWith
namespace Go.Proofs.YtlchafedbnihoaaGreat
open Go.RowKit
set_option maxRecDepth 20000
set_option maxHeartbeats 8000000
theorem zIl {c:List (List Int)} {mu:List Int}:(nf c 30 mu).length=0↔zAH mu=none:=by
 cases e:zAH mu with
 | none=>simp [zC1 e]
 | some i=>simp [nf,e]
theorem zGZ {c:List (List Int)} (hc:CartanP c) {mu:List Int} {m:Nat} (h:Im c mu m) (hm:m≤28) (s:Int):zAB c (s::nf c 30 mu)=nf c 30 (refl c s.toNat mu):=by
 unfold zAB;show nf c 30 (refl c s.toNat (zAC c (nf c 30 mu)))=_;rw [zBH hc m h (by omega)]
def BelP (c:List (List Int)) (v:List Int):Prop:=∀{S S1 S2:Nat→Prop} {x y z:Value} {mu:List Int} {m:Nat} {w:World},RII S w x c→RI S1 w y (nf c 30 mu)→RI S2 w z v→Im c mu m→m≤28→Lets c.length v→v.length≤15 →
 Calls Tryz.prog 42 #[x,y,z] w fun e w'=>e=.returned (.bool (bel c mu v))∧Below w.heap.size w w'
theorem zMV (c:List (List Int)):BelP c []:=by
 intro S S1 S2 x y z mu m w h1 h2 h3 _ _ _ _;obtain ⟨a2,c2,rfl⟩:=h2.form;obtain ⟨a3,c3,rfl⟩:=h3.form;have hr:bel c mu []=(((nf c 30 mu).length:Int) == 0):=by
  show decide (zAH mu=none)=_;by_cases e:zAH mu=none
  ·have:=zIl (c:=c).2 e;rw [decide_eq_true e]; exact (beq_iff_eq.2 (by omega)).symm
  ·have:=mt (zIl (c:=c)).1 e;rw [decide_eq_false e]; exact (beq_eq_false_iff_ne.2 (by omega)).symm
 rw [hr];clear hr;generalize (nf c 30 mu).length=L at *;simp only [List.length_nil] at *;go_enter Tryz.func42,Tryz.ntmps42
 go_wp2_with fail
 go_ret
 exact ⟨rfl,Below.refl _ _⟩
theorem zKy {c:List (List Int)} (hc:CartanP c) (hl:total c≤16777216) {s:Int} {v:List Int} (ih:BelP c v):BelP c (s::v):=by
 intro S S1 S2 x y z mu m w h1 h2 h3 him hm hle hv;have hs:=hle s (by simp);have hle':Lets c.length v:=fun y hy=>hle y (by simp [hy]);have hiL:s.toNat<c.length:=by omega
 have hul:=zFA hc him (by omega);have hlu:=zC8 hc m him (by omega);have himg:zAC c (nf c 30 mu)=mu:=zBH hc m him (by omega);have hnc:=zGZ hc him hm s;have hml:mu.length=c.length:=him.1;obtain ⟨i,rfl⟩:∃i:Nat,s=(i:Int):=⟨s.toNat,by omega⟩;simp only [Int.toNat_natCast] at *;have hB:bel c mu ((i:Int)::v)=(decide ((nf c 30 mu).length≤v.length+1) && bel c (if num mu i<0 then refl c i mu else mu) v):=rfl;have HLC:=zQY (show Lets c.length ((i:Int)::nf c 30 mu) from fun q hq=>by
  rcases List.mem_cons.1 hq with rfl | hq
  ·exact hs
  ·exact hlu q hq)
 obtain ⟨a3,c3,rfl⟩:=h3.form;obtain ⟨b3,o3,q3,e3,hc3,hq3⟩:=RI.at h3 (j:=0) (by simp);have hcap:=(RL.cap h3).1;simp only [List.length_cons] at hcap hv h3 ⊢;subst e3;obtain rfl:q3=(i:Int):=by have:=hq3.out; simpa using this.symm
 rw [Nat.add_zero] at hc3;obtain ⟨a2,c2,rfl⟩:=h2.form;obtain ⟨A1,C1,hdr,hrun⟩:∃(A1 C1:Nat),RI S2 w (.slice (some ⟨b3,A1,none⟩) v.length C1) v∧((c3=1∧A1=o3∧C1=0∧v.length=0)∨(1<c3∧A1=o3+1∧C1=c3-1)):=by
  rcases (show c3=1∨1<c3 by omega) with hcp | hcp
  ·have hn0:v.length=0:=by omega
   refine ⟨o3,0,?_,.inl ⟨hcp,rfl,rfl,hn0⟩⟩;have:=RL.cutEnd h3 (k:=1) (by omega) (by omega);rw [hn0];exact this
  ·exact ⟨o3+1,c3-1,by simpa using RL.cutFrom h3 (k:=1) (by omega),.inr ⟨hcp,rfl,rfl⟩⟩
 have HIM:=zQY him;have HS:=zQY hs;clear hs;have i0:((v.length:Int)+1 == 0)=false:=beq_eq_false_iff_ne.2 (by omega);have HIMG:=zQY himg;have HNC:=zQY hnc;have HB:=zQY hB;have HLE:=zQY hle';have HUL:=zQY hul;have HLU:=zQY hlu;clear himg hnc hB hle hle' hlu hq3 him hul h3;generalize bel c mu ((i:Int)::v)=res at *;generalize hU:nf c 30 mu=U at *;have HU:=zQY hU;clear hU;generalize hn':v.length=n at *;have HN:=zQY hn';clear hn';by_cases hlen:U.length≤n+1
 ·have i1:¬(n:Int)+1<(U.length:Int):=by omega
  rcases hrun with ⟨rfl,rfl,rfl,hn0⟩ | ⟨hc1,rfl,rfl⟩
  ·subst hn0;go_enter Tryz.func42,Tryz.ntmps42
   go_wp2_with fail
   have l1:=zQc w _ hc3;go_region_with (first
    | (go_at_call 81; refine (zE0 h1.drew h2.drew hc HLU.out hl (by have:=HUL.out; omega)).mono ?_; rintro e w1 ⟨r1,rfl,f1,b1⟩; rw [HIMG.out] at f1; obtain ⟨a1,c1,rfl⟩:=f1.reads.form; obtain ⟨b4,o4,q4,e4,hc4,hq4⟩:=RI.at f1.reads (j:=i) (by omega); subst e4; have hc3b:=(b1.cell l1).trans hc3))
   all_goals
    have b01:Below w.heap.size w w1:=((Below.refl _ w).drew).trans b1;have hn:num mu i=q4:=zAm hq4.out;clear hq4 hc4 f1 b1;have hlen2:=decide_eq_true hlen;by_cases hneg:q4<0
    ·obtain ⟨m',hm',him2⟩:=HIM.out.back hc (by omega) (i:=i) (x:=q4) (by rw [<-hn]; simp [num,hml,hiL]) hneg;have HB2:Hid (res=bel c (refl c i mu) v):=zQY (by rw [HB.out,hlen2,Bool.true_and,hn,if_pos hneg]);have HIM2:=zQY him2;clear HB hlen2 hn him2;have i5:=decide_eq_true hneg;have bb:Below w1.heap.size w1 (w1.alloc (.cells #[.int .i64 i] 3)):=(Below.refl _ _).alloc (zQd _) _;have b0b:=zAA.step b01 bb;go_wp2_with fail
     refine (zDU (RI.one w1 i) (h2.below b0b) (by simp) (by have:=HUL.out; omega)).mono ?_;rintro e w2 ⟨r2,rfl,f2,b2⟩;have b02:=zAA.step b0b b2;go_wp2_with fail
     refine (zBK (h1.below b02) f2.reads hc HLC.out hl (by have:=HUL.out; simp; omega)).mono ?_;rintro e w3 ⟨r3,rfl,f3,b3'⟩;have b03:=zAA.step b02 b3';rw [show zAB c ([(i:Int)]++U)=nf c 30 (refl c i mu) from HNC.out] at f3;go_wp2_with fail
     refine (ih (h1.below b03) f3.reads (hdr.below b03) HIM2.out (by omega) HLE.out (by rw [HN.out]; omega)).mono ?_;rintro e w4 ⟨rfl,b4'⟩;rw [<-HB2.out];go_wp2_with fail
     go_ret
     exact ⟨rfl,zAA.step b03 b4'⟩
    ·have HB2:Hid (res=bel c mu v):=zQY (by rw [HB.out,hlen2,Bool.true_and,hn,if_neg hneg]);clear HB hlen2 hn;have i5:=decide_eq_false hneg;have h22:RI S1 w1 (.slice a2 U.length c2) (nf c 30 mu):=(congrArg (RI S1 w1 (.slice a2 U.length c2)) HU.out).mpr (h2.below b01);go_wp2_with fail
     refine (ih (h1.below b01) h22 (hdr.below b01) HIM.out hm HLE.out (by rw [HN.out]; omega)).mono ?_;rintro e w4 ⟨rfl,b4'⟩;rw [<-HB2.out];go_wp2_with fail
     go_ret
     exact ⟨rfl,zAA.step b01 b4'⟩
  ·go_enter Tryz.func42,Tryz.ntmps42
   go_wp2_with fail
   have l1:=zQc w _ hc3;go_region_with (first
    | (go_at_call 81; refine (zE0 h1.drew h2.drew hc HLU.out hl (by have:=HUL.out; omega)).mono ?_; rintro e w1 ⟨r1,rfl,f1,b1⟩; rw [HIMG.out] at f1; obtain ⟨a1,c1,rfl⟩:=f1.reads.form; obtain ⟨b4,o4,q4,e4,hc4,hq4⟩:=RI.at f1.reads (j:=i) (by omega); subst e4; have hc3b:=(b1.cell l1).trans hc3))
   all_goals
    have b01:Below w.heap.size w w1:=((Below.refl _ w).drew).trans b1;have hn:num mu i=q4:=zAm hq4.out;clear hq4 hc4 f1 b1;have hlen2:=decide_eq_true hlen;by_cases hneg:q4<0
    ·obtain ⟨m',hm',him2⟩:=HIM.out.back hc (by omega) (i:=i) (x:=q4) (by rw [<-hn]; simp [num,hml,hiL]) hneg;have HB2:Hid (res=bel c (refl c i mu) v):=zQY (by rw [HB.out,hlen2,Bool.true_and,hn,if_pos hneg]);have HIM2:=zQY him2;clear HB hlen2 hn him2;have i5:=decide_eq_true hneg;have bb:Below w1.heap.size w1 (w1.alloc (.cells #[.int .i64 i] 3)):=(Below.refl _ _).alloc (zQd _) _;have b0b:=zAA.step b01 bb;go_wp2_with fail
     refine (zDU (RI.one w1 i) (h2.below b0b) (by simp) (by have:=HUL.out; omega)).mono ?_;rintro e w2 ⟨r2,rfl,f2,b2⟩;have b02:=zAA.step b0b b2;go_wp2_with fail
     refine (zBK (h1.below b02) f2.reads hc HLC.out hl (by have:=HUL.out; simp; omega)).mono ?_;rintro e w3 ⟨r3,rfl,f3,b3'⟩;have b03:=zAA.step b02 b3';rw [show zAB c ([(i:Int)]++U)=nf c 30 (refl c i mu) from HNC.out] at f3;go_wp2_with fail
     refine (ih (h1.below b03) f3.reads (hdr.below b03) HIM2.out (by omega) HLE.out (by rw [HN.out]; omega)).mono ?_;rintro e w4 ⟨rfl,b4'⟩;rw [<-HB2.out];go_wp2_with fail
     go_ret
     exact ⟨rfl,zAA.step b03 b4'⟩
    ·have HB2:Hid (res=bel c mu v):=zQY (by rw [HB.out,hlen2,Bool.true_and,hn,if_neg hneg]);clear HB hlen2 hn;have i5:=decide_eq_false hneg;have h22:RI S1 w1 (.slice a2 U.length c2) (nf c 30 mu):=(congrArg (RI S1 w1 (.slice a2 U.length c2)) HU.out).mpr (h2.below b01);go_wp2_with fail
     refine (ih (h1.below b01) h22 (hdr.below b01) HIM.out hm HLE.out (by rw [HN.out]; omega)).mono ?_;rintro e w4 ⟨rfl,b4'⟩;rw [<-HB2.out];go_wp2_with fail
     go_ret
     exact ⟨rfl,zAA.step b01 b4'⟩
 ·have i1:(n:Int)+1<(U.length:Int):=by omega
  have i2:((U.length:Int) == 0)=false:=beq_eq_false_iff_ne.2 (by omega);have hB:=HB.out;rw [decide_eq_false hlen,Bool.false_and] at hB;subst hB;clear HB HUL HIMG HLC HNC;generalize U.length=L at *;go_enter Tryz.func42,Tryz.ntmps42
  go_wp2_with fail
  go_ret
  exact ⟨rfl,Below.refl _ _⟩
theorem zEQ {c:List (List Int)} (hc:CartanP c) (hl:total c≤16777216):∀v,BelP c v
 | []=>zMV c
 | _::v=>zKy hc hl (zEQ hc hl v)
def RP (c:List (List Int)) (v:List Int):Prop:=∀{S S1 S2:Nat→Prop} {x y z:Value} {mu:List Int} {m:Nat} {w:World},RII S w x c→RI S1 w y (nf c 30 mu)→RI S2 w z v→Im c mu m→m+v.length≤27→Lets c.length v→v.length≤15 →
 Calls Tryz.prog 39 #[x,y,z] w fun e w'=>∃r,e=.returned r∧FI (New w w') w' r (rS c mu v)∧Below w.heap.size w w'
theorem zPy {c:List (List Int)} (hc:CartanP c) (hl:total c≤16777216):RP c []:=by
 intro S S1 S2 x y z mu m w h1 h2 h3 him hm hle hv;have hbel:=zEQ hc hl [] h1 h2 h3 him (by omega) hle hv;have hR:rS c mu []=if bel c mu [] then [1] else []:=rfl
 obtain ⟨a2,c2,rfl⟩:=h2.form;obtain ⟨a3,c3,rfl⟩:=h3.form;simp only [List.length_nil] at *;generalize (nf c 30 mu).length=L at *;cases hB:bel c mu []
 ·rw [hB] at hbel hR;rw [if_neg (by simp)] at hR;rw [hR];clear hR hB;go_enter Tryz.func39,Tryz.ntmps39
  go_wp2_with fail
  refine hbel.mono ?_;rintro e w1 ⟨rfl,b1⟩;go_wp2_with fail
  obtain ⟨w2,hw2⟩:∃w2,w2=w1.alloc (.cells #[] 3):=⟨_,rfl⟩;obtain ⟨f2,b2⟩:=zAR b1 hw2;rw [<-hw2];clear hw2;go_ret
  exact ⟨_,rfl,f2,b2⟩
 ·rw [hB] at hbel hR;rw [if_pos rfl] at hR;rw [hR];clear hR hB;go_enter Tryz.func39,Tryz.ntmps39
  go_wp2_with fail
  refine hbel.mono ?_;rintro e w1 ⟨rfl,b1⟩;go_wp2_with fail
  obtain ⟨w2,hw2⟩:∃w2,w2=w1.alloc (.cells #[.int .i64 1] 3):=⟨_,rfl⟩;obtain ⟨f2,b2⟩:=zEy b1 hw2;rw [<-hw2];clear hw2;go_ret
  exact ⟨_,rfl,f2,b2⟩
theorem zOp {c:List (List Int)} (hc:CartanP c) (hl:total c≤16777216) {s:Int} {v:List Int} (ih:RP c v):RP c (s::v):=by
 intro S S1 S2 x y z mu m w h1 h2 h3 him hm hle hv;have hs:=hle s (by simp);have hle':Lets c.length v:=fun y hy=>hle y (by simp [hy]);have hiL:s.toNat<c.length:=by omega
 have hul:=zFA hc him (by omega);have hlu:=zC8 hc m him (by omega);have hnc:=zGZ hc him (by omega) s;have hml:mu.length=c.length:=him.1;have hbel:=zEQ hc hl (s::v) h1 h2 h3 him (by simp at hm; omega) hle hv;obtain ⟨i,rfl⟩:∃i:Nat,s=(i:Int):=⟨s.toNat,by omega⟩;simp only [Int.toNat_natCast] at *;have hlt:=zPv hc him (by simp at hm; omega) (i:=i) hiL;have hR:rS c mu ((i:Int)::v)=if bel c mu ((i:Int)::v) then (if num mu i<0 then rS c (refl c i mu) v else addP (zAd (rS c (refl c i mu) v) 1) (subP (zAd (rS c mu v) 1) (rS c mu v))) else []:=rfl
 have HLC:=zQY (show Lets c.length ((i:Int)::nf c 30 mu) from fun q hq=>by
  rcases List.mem_cons.1 hq with rfl | hq
  ·exact hs
  ·exact hlu q hq)
 obtain ⟨a3,c3,rfl⟩:=h3.form;obtain ⟨b3,o3,q3,e3,hc3,hq3⟩:=RI.at h3 (j:=0) (by simp);have hcap:=(RL.cap h3).1;simp only [List.length_cons] at hcap hv h3 hbel hm ⊢;subst e3;obtain rfl:q3=(i:Int):=by have:=hq3.out; simpa using this.symm
 rw [Nat.add_zero] at hc3;obtain ⟨a2,c2,rfl⟩:=h2.form;obtain ⟨A1,C1,hdr,hrun⟩:∃(A1 C1:Nat),RI S2 w (.slice (some ⟨b3,A1,none⟩) v.length C1) v∧((c3=1∧A1=o3∧C1=0∧v.length=0)∨(1<c3∧A1=o3+1∧C1=c3-1)):=by
  rcases (show c3=1∨1<c3 by omega) with hcp | hcp
  ·have hn0:v.length=0:=by omega
   refine ⟨o3,0,?_,.inl ⟨hcp,rfl,rfl,hn0⟩⟩;have:=RL.cutEnd h3 (k:=1) (by omega) (by omega);rw [hn0];exact this
  ·exact ⟨o3+1,c3-1,by simpa using RL.cutFrom h3 (k:=1) (by omega),.inr ⟨hcp,rfl,rfl⟩⟩
 have HIM:=zQY him;clear hs;have i0:((v.length:Int)+1 == 0)=false:=beq_eq_false_iff_ne.2 (by omega);have HL1:=zQY (zGg c v (refl c i mu));have HL2:=zQY (zGg c v mu);have HR:=zQY hR;have HLE:=zQY hle';have HUL:=zQY hul;have HLT:=zQY hlt;clear hR hle hle' hlu hq3 him hul h3 hlt;generalize rS c mu ((i:Int)::v)=res at *;generalize hX:nf c 30 (refl c i mu)=X at *;have HX:=zQY hX;clear hX;generalize hU:nf c 30 mu=U at *;have HU:=zQY hU;clear hU;have HNC:=zQY hnc;clear hnc;generalize hn':v.length=n at *;have HN:=zQY hn';clear hn';cases hB:bel c mu ((i:Int)::v)
 ·rw [hB] at hbel;have hR2:=HR.out;rw [hB,if_neg (by simp)] at hR2;clear HR hB hrun hdr;subst hR2;go_enter Tryz.func39,Tryz.ntmps39
  go_wp2_with fail
  refine hbel.mono ?_;rintro e w1 ⟨rfl,b1⟩;go_wp2_with fail
  obtain ⟨w2,hw2⟩:∃w2,w2=w1.alloc (.cells #[] 3):=⟨_,rfl⟩;obtain ⟨f2,b2⟩:=zAR b1 hw2;rw [<-hw2];clear hw2;go_ret
  exact ⟨_,rfl,f2,b2⟩
 ·rw [hB] at hbel HR;clear hB;rcases hrun with ⟨rfl,rfl,rfl,hn0⟩ | ⟨hc1,rfl,rfl⟩
  ·subst hn0;go_enter Tryz.func39,Tryz.ntmps39
   go_wp2_with fail
   refine hbel.mono ?_;rintro e w1 ⟨rfl,b1⟩;have hc3':=(b1.cell (p:=⟨b3,A1,none⟩) (zQc w _ hc3)).trans hc3;clear hc3;have hR2:=HR.out;rw [if_pos trivial] at hR2;clear HR;have bb:Below w1.heap.size w1 (w1.alloc (.cells #[.int .i64 i] 3)):=(Below.refl _ _).alloc (zQd _) _;have b0b:=zAA.step b1 bb;go_wp2_with fail
   refine (zDU (RI.one w1 i) (h2.below b0b) (by simp) (by have:=HUL.out; omega)).mono ?_;rintro e w2 ⟨r2,rfl,f2,b2⟩;have b02:=zAA.step b0b b2;go_wp2_with fail
   refine (zBK (h1.below b02) f2.reads hc HLC.out hl (by have:=HUL.out; simp; omega)).mono ?_;rintro e w3 ⟨r3,rfl,f3,b3'⟩;have b03:=zAA.step b02 b3';rw [show zAB c ([(i:Int)]++U)=X from HNC.out] at f3;obtain ⟨a4,c4,rfl⟩:=f3.reads.form;clear f2 b2 hc3';have f3r:RI (New w2 w3) w3 (.slice a4 X.length c4) (nf c 30 (refl c i mu)):=(congrArg (RI (New w2 w3) w3 (.slice a4 X.length c4)) HX.out).mpr f3.reads;clear f3;by_cases hneg:num mu i<0
   ·rw [if_pos hneg] at hR2;obtain ⟨m',hm',him2⟩:=HIM.out.back hc (by omega) (i:=i) (x:=num mu i) (by simp [num,hml,hiL]) hneg;have HIM2:=zQY him2;have HR2:=zQY hR2;have i5:(X.length:Int)<(U.length:Int):=by have:=HLT.out.1 (by omega); omega
    clear him2 hR2 hneg;go_wp2_with fail
    refine (ih (h1.below b03) f3r (hdr.below b03) HIM2.out (by rw [HN.out]; omega) HLE.out (by rw [HN.out]; omega)).mono ?_;rintro e w4 ⟨r4,rfl,f4,b4⟩;rw [<-HR2.out] at f4;go_wp2_with fail
    go_ret
    exact ⟨_,rfl,f4.mono (fun b hb=>⟨Nat.le_trans b03.size hb.1,hb.2⟩),zAA.step b03 b4⟩
   ·rw [if_neg hneg] at hR2;have HIM2:=zQY (HIM.out.step hc (by omega) hiL);have HR2:=zQY hR2;have i5:¬(X.length:Int)<(U.length:Int):=by have:=HLT.out.2 (by omega); omega
    clear hR2 hneg;go_wp2_with fail
    refine (ih (h1.below b03) f3r (hdr.below b03) HIM2.out (by rw [HN.out]; omega) HLE.out (by rw [HN.out]; omega)).mono ?_;rintro e w4 ⟨r4,rfl,f4,b4⟩;have b04:=zAA.step b03 b4;go_wp2_with fail
    refine (zDQ f4.reads 1 (by decide) (by have:=HL1.out; omega)).mono ?_;rintro e w5 ⟨r5,rfl,f5,b5⟩;have b05:=zAA.step b04 b5;clear f4 f3r;have h22:RI S1 w5 (.slice a2 U.length c2) (nf c 30 mu):=(congrArg (RI S1 w5 (.slice a2 U.length c2)) HU.out).mpr (h2.below b05);go_wp2_with fail
    refine (ih (h1.below b05) h22 (hdr.below b05) HIM.out (by rw [HN.out]; omega) HLE.out (by rw [HN.out]; omega)).mono ?_;rintro e w6 ⟨r6,rfl,f6,b6⟩;have b06:=zAA.step b05 b6;clear h22;go_wp2_with fail
    refine (zDQ f6.reads 1 (by decide) (by have:=HL2.out; omega)).mono ?_;rintro e w7 ⟨r7,rfl,f7,b7⟩;have b07:=zAA.step b06 b7;go_wp2_with fail
    refine (zG5 f7.reads (f6.reads.below b7) (zDz (zGf c v mu)) (by have:=HL2.out; have:=zCS (rS c mu v); omega) (by have:=HL2.out; omega)).mono ?_;rintro e w8 ⟨r8,rfl,f8,b8⟩;have b08:=zAA.step b07 b8;go_wp2_with fail
    refine (zFO (f5.reads.below (zAA.step b6 (zAA.step b7 b8))) f8.reads (zDz (zGf c v _)) (zFd _ _) (by have:=HL1.out; have:=zCS (rS c (refl c i mu) v); omega) (by have:=HL2.out; have:=zCS (rS c mu v); have:=zDC (zAd (rS c mu v) 1) (rS c mu v); omega)).mono ?_;rintro e w9 ⟨r9,rfl,f9,b9⟩;have b09:=zAA.step b08 b9;rw [<-HR2.out] at f9;go_wp2_with fail
    go_ret
    exact ⟨_,rfl,f9.mono (fun b hb=>⟨Nat.le_trans b08.size hb.1,hb.2⟩),b09⟩
  ·go_enter Tryz.func39,Tryz.ntmps39
   go_wp2_with fail
   refine hbel.mono ?_;rintro e w1 ⟨rfl,b1⟩;have hc3':=(b1.cell (p:=⟨b3,o3,none⟩) (zQc w _ hc3)).trans hc3;clear hc3;have hR2:=HR.out;rw [if_pos trivial] at hR2;clear HR;have bb:Below w1.heap.size w1 (w1.alloc (.cells #[.int .i64 i] 3)):=(Below.refl _ _).alloc (zQd _) _;have b0b:=zAA.step b1 bb;go_wp2_with fail
   refine (zDU (RI.one w1 i) (h2.below b0b) (by simp) (by have:=HUL.out; omega)).mono ?_;rintro e w2 ⟨r2,rfl,f2,b2⟩;have b02:=zAA.step b0b b2;go_wp2_with fail
   refine (zBK (h1.below b02) f2.reads hc HLC.out hl (by have:=HUL.out; simp; omega)).mono ?_;rintro e w3 ⟨r3,rfl,f3,b3'⟩;have b03:=zAA.step b02 b3';rw [show zAB c ([(i:Int)]++U)=X from HNC.out] at f3;obtain ⟨a4,c4,rfl⟩:=f3.reads.form;clear f2 b2 hc3';have f3r:RI (New w2 w3) w3 (.slice a4 X.length c4) (nf c 30 (refl c i mu)):=(congrArg (RI (New w2 w3) w3 (.slice a4 X.length c4)) HX.out).mpr f3.reads;clear f3;by_cases hneg:num mu i<0
   ·rw [if_pos hneg] at hR2;obtain ⟨m',hm',him2⟩:=HIM.out.back hc (by omega) (i:=i) (x:=num mu i) (by simp [num,hml,hiL]) hneg;have HIM2:=zQY him2;have HR2:=zQY hR2;have i5:(X.length:Int)<(U.length:Int):=by have:=HLT.out.1 (by omega); omega
    clear him2 hR2 hneg;go_wp2_with fail
    refine (ih (h1.below b03) f3r (hdr.below b03) HIM2.out (by rw [HN.out]; omega) HLE.out (by rw [HN.out]; omega)).mono ?_;rintro e w4 ⟨r4,rfl,f4,b4⟩;rw [<-HR2.out] at f4;go_wp2_with fail
    go_ret
    exact ⟨_,rfl,f4.mono (fun b hb=>⟨Nat.le_trans b03.size hb.1,hb.2⟩),zAA.step b03 b4⟩
   ·rw [if_neg hneg] at hR2;have HIM2:=zQY (HIM.out.step hc (by omega) hiL);have HR2:=zQY hR2;have i5:¬(X.length:Int)<(U.length:Int):=by have:=HLT.out.2 (by omega); omega
    clear hR2 hneg;go_wp2_with fail
    refine (ih (h1.below b03) f3r (hdr.below b03) HIM2.out (by rw [HN.out]; omega) HLE.out (by rw [HN.out]; omega)).mono ?_;rintro e w4 ⟨r4,rfl,f4,b4⟩;have b04:=zAA.step b03 b4;go_wp2_with fail
    refine (zDQ f4.reads 1 (by decide) (by have:=HL1.out; omega)).mono ?_;rintro e w5 ⟨r5,rfl,f5,b5⟩;have b05:=zAA.step b04 b5;clear f4 f3r;have h22:RI S1 w5 (.slice a2 U.length c2) (nf c 30 mu):=(congrArg (RI S1 w5 (.slice a2 U.length c2)) HU.out).mpr (h2.below b05);go_wp2_with fail
    refine (ih (h1.below b05) h22 (hdr.below b05) HIM.out (by rw [HN.out]; omega) HLE.out (by rw [HN.out]; omega)).mono ?_;rintro e w6 ⟨r6,rfl,f6,b6⟩;have b06:=zAA.step b05 b6;clear h22;go_wp2_with fail
    refine (zDQ f6.reads 1 (by decide) (by have:=HL2.out; omega)).mono ?_;rintro e w7 ⟨r7,rfl,f7,b7⟩;have b07:=zAA.step b06 b7;go_wp2_with fail
    refine (zG5 f7.reads (f6.reads.below b7) (zDz (zGf c v mu)) (by have:=HL2.out; have:=zCS (rS c mu v); omega) (by have:=HL2.out; omega)).mono ?_;rintro e w8 ⟨r8,rfl,f8,b8⟩;have b08:=zAA.step b07 b8;go_wp2_with fail
    refine (zFO (f5.reads.below (zAA.step b6 (zAA.step b7 b8))) f8.reads (zDz (zGf c v _)) (zFd _ _) (by have:=HL1.out; have:=zCS (rS c (refl c i mu) v); omega) (by have:=HL2.out; have:=zCS (rS c mu v); have:=zDC (zAd (rS c mu v) 1) (rS c mu v); omega)).mono ?_;rintro e w9 ⟨r9,rfl,f9,b9⟩;have b09:=zAA.step b08 b9;rw [<-HR2.out] at f9;go_wp2_with fail
    go_ret
    exact ⟨_,rfl,f9.mono (fun b hb=>⟨Nat.le_trans b08.size hb.1,hb.2⟩),b09⟩
theorem zL3 {c:List (List Int)} (hc:CartanP c) (hl:total c≤16777216):∀v,RP c v
 | []=>zPy hc hl
 | _::v=>zOp hc hl (zL3 hc hl v)
end Go.Proofs.YtlchafedbnihoaaGreat
