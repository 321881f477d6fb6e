/- Star products of two words, of a word and a letter, squares and powers, by the program. Condition: sizes up to 2^24. -/
import Derived.Test.YtlchafedbnihoaaJGStrP
import Derived.Test.YtlchafedbnihoaaJGInV
namespace Go.Proofs.Ytlchafedbnihoaa
open Go.RowKit
set_option maxRecDepth 20000
set_option maxHeartbeats 8000000
def zAP (c:List (List Int)) (a b:List Int):Bool:=(isWd c a && isWd c b) && decide ((zAN c a b).length≤15)
def zAO (c:List (List Int)) (a b:List Int):List Int:=if zAP c a b=true then zAN c a b else []
def zBb (c:List (List Int)) (a:List Int) (i:Int):Bool:=(isWd c a && ptB c i) && decide ((zAJ c (zAB c a) i).length≤15)
def letV (c:List (List Int)) (a:List Int) (i:Int):List Int:=if zBb c a i=true then zAJ c (zAB c a) i else []
def zA6 (c:List (List Int)) (a:List Int):Bool:=isWd c a && eqL (zAN c a a) (zAB c a)
structure WdP (c:List (List Int)) (a:List Int):Prop where
 cart:CartanP c
 lets:Lets c.length a
 len:a.length≤15
 nl:Lets c.length (zAB c a)
 nn:(zAB c a).length≤15
theorem wd_p {c:List (List Int)} {a:List Int} (h:isWd c a=true):WdP c a:=by
 obtain ⟨h1,h2,h3⟩:=zAw h;have hc:=zAR.1 h1;have:=zAz hc h3 (by omega);exact ⟨hc,h3,h2,zCf hc h3 (by omega),by omega⟩
theorem zDk {c:List (List Int)} {a b:List Int} (ha:WdP c a) (hb:WdP c b):Lets c.length (zAN c a b)∧(zAN c a b).length≤30:=by
 have h1:=ha.nn;have h2:=hb.nn;obtain ⟨h3,h4⟩:=zCo ha.cart (zAB c b) ha.nl hb.nl (by omega);exact ⟨h3,Nat.le_trans h4 (by omega)⟩
theorem zAc {S S1 S2:Nat→Prop} {u v1 v2:Value} {c:List (List Int)} {a b:List Int} {w:World} (h:RII S w u c) (h1:RI S1 w v1 a) (h2:RI S2 w v2 b) (hl:total c≤16777216) (la:a.length≤16777216) (lb:b.length≤16777216) :
  Calls Try.prog 6 #[u,v1,v2] w fun e w'=>∃r,e=.returned (.tuple #[r,.bool (zAP c a b)])∧FI (New w w') w' r (zAO c a b)∧Below w.heap.size w w':=by
 have HD:Hid (zAP c a b=((isWd c a && isWd c b) && decide ((zAN c a b).length≤15))):=zJh rfl;have HV:Hid (zAO c a b=if zAP c a b=true then zAN c a b else []):=zJh rfl;have HPA:Hid (isWd c a=true→WdP c a):=zJh wd_p;have HPB:Hid (isWd c b=true→WdP c b):=zJh wd_p;generalize zAP c a b=ok at *;generalize zAO c a b=pv at *;go_enter Try.func6,Try.ntmps6
 go_wp2_with fail
 refine (zAl h h1 hl la).mono ?_;rintro e w1 ⟨rfl,hw1⟩;have b1:=zAH hw1;clear hw1;cases hA:isWd c a
 ·have e0:Hid (ok=false∧pv=[]):=zJh (by rw [HV.out,HD.out,hA]; exact ⟨rfl,rfl⟩);go_wp2_with fail
  obtain ⟨f1,b2⟩:=zAE (w:=w1) b1 rfl;go_ret2
  rw [e0.out.1,e0.out.2];exact ⟨_,rfl,f1,b2⟩
 ·have PA:=zJh (HPA.out hA);have HA:=zJh hA;clear hA HPA;go_wp2_with fail
  refine (zAl (h.below b1) (h2.below b1) hl lb).mono ?_;rintro e w2 ⟨rfl,hw2⟩;have b2:=zAA.step b1 (zAH hw2);clear hw2;cases hB:isWd c b
  ·have e0:Hid (ok=false∧pv=[]):=zJh (by rw [HV.out,HD.out,hB,Bool.and_false]; exact ⟨rfl,rfl⟩);go_wp2_with fail
   obtain ⟨f1,b3⟩:=zAE (w:=w2) b2 rfl;go_ret2
   rw [e0.out.1,e0.out.2];exact ⟨_,rfl,f1,b3⟩
  ·have PB:=zJh (HPB.out hB);have HD2:Hid (ok=decide ((zAN c a b).length≤15)):=zJh (by rw [HD.out,HA.out,hB]; rfl);have hP30:=(zDk PA.out PB.out).2;clear hB HPB HD HA;go_wp2_with fail
   refine (zA1 (h.below b2) (h1.below b2) PA.out.cart PA.out.lets (by have:=PA.out.len; omega)).mono ?_;rintro e w3 ⟨r3,rfl,f3,b3⟩;have f3:FI (New w w3) w3 r3 _:=f3.mono (fun b hb=>⟨Nat.le_trans b2.size hb.1,hb.2⟩);have b3:=zAA.step b2 b3;go_wp2_with fail
   refine (zA1 (h.below b3) (h2.below b3) PA.out.cart PB.out.lets (by have:=PB.out.len; omega)).mono ?_;rintro e w4 ⟨r4,rfl,f4,b4⟩;have f34:=f3.grow b4;have f4:=f4.reads;have b4:=zAA.step b3 b4;have hna:=PA.out.nn;have hnb:=PB.out.nn;have HNA:=zJh PA.out.nl;have HNB:=zJh PB.out.nl;have HC:=zJh PA.out.cart;have HSP:Hid (zAN c a b=zAC c (zAB c a) (zAB c b)):=zJh rfl;generalize zAB c a=na at *;generalize zAB c b=nb at *;generalize zAN c a b=sp at *;obtain ⟨a4,c4,rfl⟩:=f4.form;have HR0:Hid (zAC c na (nb.drop 0)=sp):=zJh (by rw [HSP.out]; simp);have HRN:Hid (∀x,zAC c x (nb.drop nb.length)=x):=zJh (fun x=>by rw [List.drop_length]; rfl);generalize hm:nb.length=m at *;clear hm b1 b2 b3 f3;go_wp2_with fail
   go_loopw [8,29] (fun zz j wr=>∃(k:Nat) (z:Value) (x:List Int),z=zz∧k≤m∧j=.int .i64 k∧FI (New w wr) wr z x∧x.length≤15+k∧Hid (Lets c.length x)∧Hid (zAC c x (nb.drop k)=sp)∧Below w.heap.size w wr∧Below w4.heap.size w4 wr) (fun _ j _=>m-(intOf j).toNat)
   case atStart=>exact ⟨0,_,na,rfl,Nat.zero_le _,rfl,f34,hna,HNA,HR0,b4,Below.refl _ _⟩
   case round =>
    obtain ⟨k,z,x,rfl,hk,rfl,hf,hxl,HL,HK,hb,hb4⟩:=hrel;by_cases hlt:k<m
    ·obtain ⟨b,o,y,e9,hcy,hy⟩:=(f4.below hb4).at hlt;subst e9;obtain ⟨i,rfl,hi⟩:=zBz HNB.out hy.out;have HK2:Hid (zAC c (zAJ c x i) (nb.drop (k+1))=sp):=zJh ((zCn hy.out).symm.trans HK.out);have HOK:=zJh (zBT HC.out HL.out hi (by omega));have i1:(k:Int)<(m:Int):=by omega
     go_wp2_with fail
     refine (zCO (S':=S1) (W:=w) (h.below hb) hf hb.size HC.out HL.out hi (by omega)).mono ?_;rintro e w5 ⟨r5,rfl,f5,b5⟩;go_wp2_with fail
     go_roundw
     case rel=>exact ⟨k+1,_,_,rfl,by omega,by go_num,f5,by have:=HOK.out.2; omega,zJh HOK.out.1,HK2,zAA.step hb b5,zAA.step hb4 b5⟩
     case measure=>simp [intOf]; omega
    ·have hkm:k=m:=by omega
     have e0:Hid (x=sp):=zJh (by have:=HK.out; rw [hkm,HRN.out] at this; exact this);have i1:¬(k:Int)<(m:Int):=by omega
     clear hkm;rw [e0.out] at hf;obtain ⟨az,cz,rfl⟩:=hf.form;by_cases h15:sp.length≤15
     ·have e1:Hid (ok=true∧pv=sp):=zJh (by rw [HV.out,HD2.out,decide_eq_true h15]; exact ⟨rfl,rfl⟩);have i2:¬(15:Int)<(sp.length:Int):=by omega
      generalize sp.length=q at *;go_wp2_with fail
      go_ret2
      rw [e1.out.1,e1.out.2];exact ⟨_,rfl,hf,hb⟩
     ·have e1:Hid (ok=false∧pv=[]):=zJh (by rw [HV.out,HD2.out,decide_eq_false h15]; exact ⟨rfl,rfl⟩);have i2:(15:Int)<(sp.length:Int):=by omega
      generalize sp.length=q at *;go_wp2_with fail
      obtain ⟨f1,b6⟩:=zAE (w:=wr) hb rfl;go_ret2
      rw [e1.out.1,e1.out.2];exact ⟨_,rfl,f1,b6⟩
theorem zEC {S S1:Nat→Prop} {u v1:Value} {c:List (List Int)} {a:List Int} {w:World} {i:Int} (h:RII S w u c) (h1:RI S1 w v1 a) (hl:total c≤16777216) (la:a.length≤16777216) :
  Calls Try.prog 21 #[u,v1,.int .i64 i] w fun e w'=>∃r,e=.returned (.tuple #[r,.bool (zBb c a i)])∧FI (New w w') w' r (letV c a i)∧Below w.heap.size w w':=by
 have HD:Hid (zBb c a i=((isWd c a && ptB c i) && decide ((zAJ c (zAB c a) i).length≤15))):=zJh rfl;have HV:Hid (letV c a i=if zBb c a i=true then zAJ c (zAB c a) i else []):=zJh rfl;have HPA:Hid (isWd c a=true→WdP c a):=zJh wd_p;have HPT:Hid (ptB c i=true→0≤i∧i<c.length):=zJh (fun h=>by unfold ptB inR at h; rw [Bool.and_eq_true,decide_eq_true_eq,decide_eq_true_eq] at h; omega);generalize zBb c a i=ok at *;generalize letV c a i=pv at *;go_enter Try.func21,Try.ntmps21
 go_wp2_with fail
 refine (zAl h h1 hl la).mono ?_;rintro e w1 ⟨rfl,hw1⟩;have b1:=zAH hw1;clear hw1;cases hA:isWd c a
 ·have e0:Hid (ok=false∧pv=[]):=zJh (by rw [HV.out,HD.out,hA]; exact ⟨rfl,rfl⟩);go_wp2_with fail
  obtain ⟨f1,b2⟩:=zAE (w:=w1) b1 rfl;go_ret2
  rw [e0.out.1,e0.out.2];exact ⟨_,rfl,f1,b2⟩
 ·have PA:=zJh (HPA.out hA);have HA:=zJh hA;clear hA HPA;go_wp2_with fail
  refine (zDL i (h.below b1)).mono ?_;rintro e w2 ⟨rfl,rfl⟩;cases hB:ptB c i
  ·have e0:Hid (ok=false∧pv=[]):=zJh (by rw [HV.out,HD.out,hB,Bool.and_false]; exact ⟨rfl,rfl⟩);go_wp2_with fail
   obtain ⟨f1,b3⟩:=zAE (w:=w1) b1 rfl;go_ret2
   rw [e0.out.1,e0.out.2];exact ⟨_,rfl,f1,b3⟩
  ·have hp:=HPT.out hB;obtain ⟨k,rfl⟩:∃k:Nat,i=(k:Int):=⟨i.toNat,by omega⟩;have hk:k<c.length:=by omega
   have HD2:Hid (ok=decide ((zAJ c (zAB c a) k).length≤15)):=zJh (by rw [HD.out,HA.out,hB]; rfl);clear hB HPT HD HA;go_wp2_with fail
   refine (zA1 (h.below b1) (h1.below b1) PA.out.cart PA.out.lets (by have:=PA.out.len; omega)).mono ?_;rintro e w3 ⟨r3,rfl,f3,b3⟩;have f3:FI (New w w3) w3 r3 _:=f3.mono (fun b hb=>⟨Nat.le_trans b1.size hb.1,hb.2⟩);have b3:=zAA.step b1 b3;have hna:=PA.out.nn;go_wp2_with fail
   refine (zCO (S':=S1) (W:=w) (h.below b3) f3 b3.size PA.out.cart PA.out.nl hk (by omega)).mono ?_;rintro e w5 ⟨r5,rfl,f5,b5⟩;have b5:=zAA.step b3 b5;have hsl:=(zBT PA.out.cart PA.out.nl hk (by omega)).2;generalize zAJ c (zAB c a) k=sp at *;obtain ⟨az,cz,rfl⟩:=f5.form;by_cases h15:sp.length≤15
   ·have e1:Hid (ok=true∧pv=sp):=zJh (by rw [HV.out,HD2.out,decide_eq_true h15]; exact ⟨rfl,rfl⟩);have i2:¬(15:Int)<(sp.length:Int):=by omega
    generalize sp.length=q at *;go_wp2_with fail
    go_ret2
    rw [e1.out.1,e1.out.2];exact ⟨_,rfl,f5,b5⟩
   ·have e1:Hid (ok=false∧pv=[]):=zJh (by rw [HV.out,HD2.out,decide_eq_false h15]; exact ⟨rfl,rfl⟩);have i2:(15:Int)<(sp.length:Int):=by omega
    generalize sp.length=q at *;go_wp2_with fail
    obtain ⟨f1,b6⟩:=zAE (w:=w5) b5 rfl;go_ret2
    rw [e1.out.1,e1.out.2];exact ⟨_,rfl,f1,b6⟩
theorem zDX {S S1:Nat→Prop} {u v1:Value} {c:List (List Int)} {a:List Int} {w:World} (h:RII S w u c) (h1:RI S1 w v1 a) (hl:total c≤16777216) (la:a.length≤16777216) :
  Calls Try.prog 15 #[u,v1] w fun e w'=>e=.returned (.bool (zA6 c a))∧Below w.heap.size w w':=by
 have HD:Hid (zA6 c a=(isWd c a && eqL (zAN c a a) (zAB c a))):=zJh rfl;have HO:Hid (zAP c a a=(isWd c a && decide ((zAN c a a).length≤15))):=zJh (by unfold zAP; rw [Bool.and_self]);have HV:Hid (zAO c a a=if zAP c a a=true then zAN c a a else []):=zJh rfl;have HPA:Hid (isWd c a=true→WdP c a):=zJh wd_p;generalize zA6 c a=res at *;go_enter Try.func15,Try.ntmps15
 go_wp2_with fail
 refine (zAc h h1 h1 hl la la).mono ?_;rintro e w1 ⟨r1,rfl,f1,b1⟩;cases hP:zAP c a a
 ·have e0:Hid (res=false):=zJh (by
   rw [hP] at HO;rw [HD.out];have h2:=HO.out;cases hA:isWd c a
   ·rfl
   ·rw [hA,Bool.true_and] at h2;have h3:=of_decide_eq_false h2.symm;have h4:=(HPA.out hA).nn;show eqL _ _=false;unfold eqL;rw [decide_eq_false_iff_not];intro e;rw [e] at h3;exact h3 h4)
  go_wp2_with fail
  go_ret
  exact ⟨zAD e0.out.symm,b1⟩
 ·have HA:Hid (isWd c a=true∧(zAN c a a).length≤15):=zJh (by
   have h2:=HO.out;rw [hP] at h2;have h3:=h2.symm;rw [Bool.and_eq_true,decide_eq_true_eq] at h3;exact h3)
  have PA:=zJh (HPA.out HA.out.1);have e0:Hid (res=eqL (zAN c a a) (zAB c a)):=zJh (by rw [HD.out,HA.out.1]; rfl);rw [HV.out,hP,if_pos rfl] at f1;clear hP HO HV HPA;go_wp2_with fail
  refine (zA1 (h.below b1) (h1.below b1) PA.out.cart PA.out.lets (by have:=PA.out.len; omega)).mono ?_;rintro e w2 ⟨r2,rfl,f2,b2⟩;have b02:=zAA.step b1 b2;go_wp2_with fail
  refine (zBg (f1.below b2).reads f2.reads (by have:=HA.out.2; omega) (by have:=PA.out.nn; omega)).mono ?_;rintro e w3 ⟨rfl,hw3⟩;have b03:=zAA.step b02 (zAH hw3);clear hw3;generalize eqL (zAN c a a) (zAB c a)=q at *;go_wp2_with fail
  go_ret
  exact ⟨zAD e0.out.symm,b03⟩
theorem zFp {S:Nat→Prop} {v:Value} {l:List Int} {w:World} (h:RI S w v l) (hl:l.length≤16777216) :
  Calls Try.prog 37 #[v] w fun e w'=>∃r,e=.returned (.tuple #[r,.bool (decide (l.length≤15))])∧FI (New w w') w' r (if l.length≤15 then l else [])∧Below w.heap.size w w':=by
 obtain ⟨a,cap,rfl⟩:=h.form;obtain ⟨f1,b1⟩:=zAE (w:=w) (Below.refl _ w) rfl;by_cases h15:l.length≤15
 ·rw [decide_eq_true h15,if_pos h15];have i1:¬(15:Int)<(l.length:Int):=by omega
  go_enter Try.func37,Try.ntmps37
  go_wp2_with (at_builtin; go_must (refine zAG (W:=w) rfl _ _ rfl rfl f1 b1 rfl (h.below b1) ?_ ?_))
  ·first | omega | (simp; omega) | (simp; done)
  ·intro v2 w2 f2 b2 _;clear f1 b1;go_wp2_with fail
   go_ret2
   exact ⟨_,rfl,f2,b2⟩
 ·rw [decide_eq_false h15,if_neg h15];have i1:(15:Int)<(l.length:Int):=by omega
  generalize l.length=q at *;go_enter Try.func37,Try.ntmps37
  go_wp2_with fail
  go_ret2
  exact ⟨_,rfl,f1,b1⟩
theorem zJI {x a b:Int} (h:¬(a≤x∧x≤b)):inR x a b=false:=by
 unfold inR;cases e:(decide (a≤x) && decide (x≤b))
 ·rfl
 ·rw [Bool.and_eq_true,decide_eq_true_eq,decide_eq_true_eq] at e; exact absurd e h
theorem zBE {c:List (List Int)} {a:List Int} (h:isWd c a=true):zBc c a=zAB c a:=by unfold zBc; rw [if_pos h]
theorem zD3 {S S1 S2:Nat→Prop} {u v1 v2:Value} {c:List (List Int)} {a b:List Int} {w:World} (h:RII S w u c) (h1:RI S1 w v1 a) (h2:RI S2 w v2 b) (hl:total c≤16777216) (la:a.length≤16777216) (lb:b.length≤16777216) :
  Calls Try.prog 7 #[u,v1,v2] w fun e w'=>∃r,e=.returned (.tuple #[r,.bool (zAP c a b)])∧FI (New w w') w' r (zAO c a b)∧Below w.heap.size w w':=by
 have HD:Hid (zAP c a b=((isWd c a && isWd c b) && decide ((zAN c a b).length≤15))):=zJh rfl;have HV:Hid (zAO c a b=if zAP c a b=true then zAN c a b else []):=zJh rfl;have HPA:Hid (isWd c a=true→WdP c a):=zJh wd_p;have HPB:Hid (isWd c b=true→WdP c b):=zJh wd_p;generalize zAP c a b=ok at *;generalize zAO c a b=pv at *;go_enter Try.func7,Try.ntmps7
 go_wp2_with fail
 refine (zAe h h1 hl la).mono ?_;rintro e w1 ⟨r1,rfl,f1,b1⟩;go_wp2_with fail
 refine (zAe (h.below b1) (h2.below b1) hl lb).mono ?_;rintro e w2 ⟨r2,rfl,f2,b2⟩;have f1:=f1.grow b2;have b2:=zAA.step b1 b2;cases hA:isWd c a
 ·have e0:Hid (ok=false∧pv=[]):=zJh (by rw [HV.out,HD.out,hA]; exact ⟨rfl,rfl⟩);go_wp2_with fail
  obtain ⟨f3,b3⟩:=zAE (w:=w2) b2 rfl;go_ret2
  rw [e0.out.1,e0.out.2];exact ⟨_,rfl,f3,b3⟩
 ·cases hB:isWd c b
  ·have e0:Hid (ok=false∧pv=[]):=zJh (by rw [HV.out,HD.out,hB,Bool.and_false]; exact ⟨rfl,rfl⟩);go_wp2_with fail
   obtain ⟨f3,b3⟩:=zAE (w:=w2) b2 rfl;go_ret2
   rw [e0.out.1,e0.out.2];exact ⟨_,rfl,f3,b3⟩
  ·have PA:=zJh (HPA.out hA);have PB:=zJh (HPB.out hB);have HD2:Hid (ok=decide ((zAN c a b).length≤15)):=zJh (by rw [HD.out,hA,hB]; rfl);have hP30:=(zDk PA.out PB.out).2;rw [zBE hA] at f1;rw [zBE hB] at f2;clear hA hB HPA HPB HD;go_wp2_with fail
   refine (zCA (W:=w) (h.below b2) f1 f2.reads b2 PA.out.cart hl PA.out.nl PA.out.nn PB.out.nn PB.out.nl).mono ?_;rintro e w3 ⟨r3,rfl,f3,b3,_⟩;have f3:FI (New w w3) w3 r3 (zAN c a b):=f3;go_wp2_with fail
   refine (zFp f3.reads (by omega)).mono ?_;rintro e w4 ⟨r4,rfl,f4,b4⟩;have f4:FI (New w w4) w4 r4 _:=f4.mono (fun b hb=>⟨Nat.le_trans b3.size hb.1,hb.2⟩);have b4:=zAA.step b3 b4;go_wp2_with fail
   go_ret2
   rw [HV.out,HD2.out];refine ⟨_,rfl,?_,b4⟩;simp only [decide_eq_true_eq];exact f4
theorem zED {S S1:Nat→Prop} {u v1:Value} {c:List (List Int)} {a:List Int} {w:World} {i:Int} (h:RII S w u c) (h1:RI S1 w v1 a) (hl:total c≤16777216) (la:a.length≤16777216) :
  Calls Try.prog 22 #[u,v1,.int .i64 i] w fun e w'=>∃r,e=.returned (.tuple #[r,.bool (zBb c a i)])∧FI (New w w') w' r (letV c a i)∧Below w.heap.size w w':=by
 have HD:Hid (zBb c a i=((isWd c a && ptB c i) && decide ((zAJ c (zAB c a) i).length≤15))):=zJh rfl;have HV:Hid (letV c a i=if zBb c a i=true then zAJ c (zAB c a) i else []):=zJh rfl;have HPA:Hid (isWd c a=true→WdP c a):=zJh wd_p;have HPT:Hid (ptB c i=true↔0≤i∧i<c.length):=zJh (by unfold ptB inR; rw [Bool.and_eq_true,decide_eq_true_eq,decide_eq_true_eq]; omega);have HSL:Hid (zAC c (zAB c a) [i]=zAJ c (zAB c a) i):=zJh rfl;generalize zBb c a i=ok at *;generalize letV c a i=pv at *;obtain ⟨au,cu,rfl⟩:=h.form;go_enter Try.func22,Try.ntmps22
 go_wp2_with fail
 refine (zAe h h1 hl la).mono ?_;rintro e w1 ⟨r1,rfl,f1,b1⟩;cases hA:isWd c a
 ·have e0:Hid (ok=false∧pv=[]):=zJh (by rw [HV.out,HD.out,hA]; exact ⟨rfl,rfl⟩);go_wp2_with fail
  obtain ⟨f3,b3⟩:=zAE (w:=w1) b1 rfl;go_ret2
  rw [e0.out.1,e0.out.2];exact ⟨_,rfl,f3,b3⟩
 ·have PA:=zJh (HPA.out hA);have hn4:=PA.out.cart.le;have hIR:Hid (inR i 0 ((c.length:Int)-1)=ptB c i):=zJh (by
   have h1:=HPT.out;cases e:ptB c i
   ·rw [e] at h1;exact zJI (fun hh=>by have:=h1.2 ⟨hh.1,by omega⟩; cases this)
   ·have:=h1.1 e;exact zDD (by omega))
  have hw1:IntKind.i64.wrap ((c.length:Int)-1)=(c.length:Int)-1:=IntWalk.i64_in _ (by omega);rw [zBE hA] at f1;go_wp2_with fail
  refine (zBS i 0 ((c.length:Int)-1) w1).mono ?_;rintro e w2 ⟨rfl,rfl⟩;rw [hIR.out];clear hw1;cases hB:ptB c i
  ·have e0:Hid (ok=false∧pv=[]):=zJh (by rw [HV.out,HD.out,hB,Bool.and_false]; exact ⟨rfl,rfl⟩);go_wp2_with fail
   obtain ⟨f3,b3⟩:=zAE (w:=w1) b1 rfl;go_ret2
   rw [e0.out.1,e0.out.2];exact ⟨_,rfl,f3,b3⟩
  ·have hp:=HPT.out.1 hB;have HD2:Hid (ok=decide ((zAJ c (zAB c a) i).length≤15)):=zJh (by rw [HD.out,hA,hB]; rfl);have HLE:Hid (Lets c.length [i]):=zJh (fun y hy=>by rw [List.mem_singleton] at hy; subst hy; exact hp);have hsl:(zAJ c (zAB c a) i).length≤100:=by
    obtain ⟨k,rfl⟩:∃k:Nat,i=(k:Int):=⟨i.toNat,by omega⟩;have:=(zBT PA.out.cart PA.out.nl (by omega) (by have:=PA.out.nn; omega):Lets c.length (zAJ c (zAB c a) k)∧_).2;have:=PA.out.nn;omega
   clear hA hB HPA HD HPT;have bb:Below w1.heap.size w1 (w1.alloc (.cells #[.int .i64 i] 3)):=(Below.refl _ _).alloc (zJm _) _;have b2:=zAA.step b1 bb;go_wp2_with fail
   refine (zCA (W:=w) (h.below b2) (f1.grow bb) (RI.one w1 i) b2 PA.out.cart hl PA.out.nl PA.out.nn (by simp) HLE.out).mono ?_;rintro e w3 ⟨r3,rfl,f3,b3,_⟩;rw [HSL.out] at f3;go_wp2_with fail
   refine (zFp f3.reads (by omega)).mono ?_;rintro e w4 ⟨r4,rfl,f4,b4⟩;have f4:FI (New w w4) w4 r4 _:=f4.mono (fun b hb=>⟨Nat.le_trans b3.size hb.1,hb.2⟩);have b4:=zAA.step b3 b4;go_wp2_with fail
   go_ret2
   rw [HV.out,HD2.out];refine ⟨_,rfl,?_,b4⟩;simp only [decide_eq_true_eq];exact f4
theorem zDY {S S1:Nat→Prop} {u v1:Value} {c:List (List Int)} {a:List Int} {w:World} (h:RII S w u c) (h1:RI S1 w v1 a) (hl:total c≤16777216) (la:a.length≤16777216) :
  Calls Try.prog 16 #[u,v1] w fun e w'=>e=.returned (.bool (zA6 c a))∧Below w.heap.size w w':=by
 have HD:Hid (zA6 c a=(isWd c a && eqL (zAN c a a) (zAB c a))):=zJh rfl;have HPA:Hid (isWd c a=true→WdP c a):=zJh wd_p;generalize zA6 c a=res at *;go_enter Try.func16,Try.ntmps16
 go_wp2_with fail
 refine (zAe h h1 hl la).mono ?_;rintro e w1 ⟨r1,rfl,f1,b1⟩;cases hA:isWd c a
 ·have e0:Hid (res=false):=zJh (by rw [HD.out,hA]; rfl);go_wp2_with fail
  go_ret
  exact ⟨zAD e0.out.symm,b1⟩
 ·have PA:=zJh (HPA.out hA);have e0:Hid (res=eqL (zAN c a a) (zAB c a)):=zJh (by rw [HD.out,hA]; rfl);have hP30:=(zDk PA.out PA.out).2;rw [zBE hA] at f1;clear hA HPA HD;go_wp2_with fail
  refine (zCA (W:=w) (h.below b1) f1 f1.reads b1 PA.out.cart hl PA.out.nl PA.out.nn PA.out.nn PA.out.nl).mono ?_;rintro e w3 ⟨r3,rfl,f3,b3,b13⟩;have f3:FI (New w w3) w3 r3 (zAN c a a):=f3;go_wp2_with fail
  refine (zBh f3.reads (f1.below b13).reads (by omega) (by have:=PA.out.nn; omega)).mono ?_;rintro e w4 ⟨rfl,hw4⟩;have b4:=zAA.step b3 (zAH hw4);clear hw4;generalize eqL (zAN c a a) (zAB c a)=q at *;go_wp2_with fail
  go_ret
  exact ⟨zAD e0.out.symm,b4⟩
end Go.Proofs.Ytlchafedbnihoaa
