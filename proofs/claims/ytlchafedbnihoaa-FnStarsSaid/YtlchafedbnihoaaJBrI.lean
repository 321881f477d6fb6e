/- The order of elements and equality of elements, by the program. Condition: sizes up to 2^24. -/
import Derived.Test.YtlchafedbnihoaaJGStrI
namespace Go.Proofs.Ytlchafedbnihoaa
open Go.RowKit
set_option maxRecDepth 20000
set_option maxHeartbeats 8000000
theorem zHG {c:List (List Int)} {mu v:List Int} {k:Nat} {i:Int} (h:v[k]? = some i):subB c mu (v.drop k)=subB c (if num mu i.toNat<0 then refl c i.toNat mu else mu) (v.drop (k+1)):=by
 rw [zAM h]; rfl
theorem zIY {l:List Int} {i:Nat} {x:Int} (h:l[i]? = some x):num l i=x:=by simp [num,h]
theorem zIL {l:List Int}:decide (zAF l=none)=decide (fd l<0):=by
 unfold fd;cases e:zAF l with
 | none=>rfl
 | some i=>first | (simp; done) | (simp; omega)
theorem zFV {S S1 S2:Nat→Prop} {u v z:Value} {c:List (List Int)} {mu wd:List Int} {w:World} {m:Nat} (h:RII S w u c) (h1:RI S1 w v mu) (h2:RI S2 w z wd) (hc:CartanP c) (him:Im c mu m) (hm:m≤30) (hle:Lets c.length wd) (hl:wd.length≤30) :
  Calls Try.prog 67 #[u,v,z] w fun e w'=>∃r,e=.returned (.tuple #[r,.bool (subB c mu wd)])∧Below w.heap.size w w':=by
 have h:=h.old;have hn4:=hc.le;have hlen:=him.len;obtain ⟨a,cap,rfl⟩:=h.form;obtain ⟨a',cap',rfl⟩:=h1.form;obtain ⟨az,cz,rfl⟩:=h2.form;have HQ:=zJh hc.sq;have HC:=zJh hc;have HIM:=zJh him;have HLE:=zJh hle;rw [hlen] at h1 ⊢;have HN:=zJh hlen;have HR0:Hid (subB c mu (wd.drop 0)=subB c mu wd):=zJh (by simp);have HRN:Hid (∀x,subB c x (wd.drop wd.length)=decide (fd x<0)):=zJh (fun x=>by rw [List.drop_length,<-zIL]; rfl);have HST:=zJh (fun (x:List Int) (k:Nat) (i:Int) (hi:wd[k]? = some i)=>zHG (c:=c) (mu:=x) hi);generalize subB c mu wd=res at *;generalize hwl:wd.length=n at *;clear hc him hlen hwl hle;go_enter Try.func67,Try.ntmps67
 obtain ⟨f1,b1⟩:=zAE (w:=w) (Below.refl _ w) rfl;go_wp2_with (at_builtin; go_must (refine zAG (W:=w) rfl _ _ rfl rfl f1 b1 rfl (h1.below b1) ?_ ?_))
 ·have:=HN.out; simp; omega
 ·intro v1 w2 f2 b2 _;clear b1 f1 h1;go_wp2_with fail
  obtain ⟨w3,hw3⟩:∃w3,w3=w2.alloc (.cells #[] 3):=⟨_,rfl⟩;obtain ⟨f3,b3⟩:=zAE (Below.refl _ w2) hw3;rw [<-hw3];clear hw3;have f2:=f2.below b3;obtain ⟨a1,c1,e0⟩:=f2.form;have e1:v1=.slice a1 c.length c1:=by rw [e0]; simp [HN.out]
  clear e0;subst e1;have hD:∀b,Bt 0 w.heap.size b→¬New w w2 b:=fun b hb hb'=>by have:=hb.2; have:=hb'.1; omega
  have hD2:∀(W:World) b,Bt w2.heap.size W.heap.size b→¬New w w2 b:=fun W b hb hb'=>by have:=hb.1; have:=hb'.2; omega
  have b03:=zAA.step b2 b3;have hs2:w.heap.size≤w2.heap.size:=b2.size;have hs3:w2.heap.size≤w3.heap.size:=b3.size;go_loopw [8,17] (fun zz jj wr=>∃(k:Nat) (x acc:List Int) (m:Nat) (vz:Value),vz=zz∧k≤n∧jj=.int .i64 k∧FI (New w w2) wr (.slice a1 c.length c1) x∧FI (Bt w2.heap.size wr.heap.size) wr vz acc∧acc.length≤k∧Hid (Im c x m)∧m≤30∧Hid (subB c x (wd.drop k)=res)∧w2.heap.size≤wr.heap.size∧Below w.heap.size w wr) (fun _ jj _=>n-(intOf jj).toNat)
  case atStart=>exact ⟨0,mu,[],m,_,rfl,Nat.zero_le _,rfl,f2,f3,by simp,HIM,hm,HR0,hs3,b03⟩
  case round =>
   obtain ⟨k,x,acc,m,vz,rfl,hk,rfl,hf,hz,hal,HI,hm,HR,hs,hb⟩:=hrel;have hxl:x.length=c.length:=HI.out.len;by_cases hlt:k<n
   ·obtain ⟨b,o,y,e9,hcy,hy⟩:=(h2.below hb).at hlt;subst e9;obtain ⟨i,rfl,hi⟩:=zBz HLE.out hy.out;obtain ⟨b4,o4,q4,e4,hc4,hq4⟩:=RI.at hf.reads (j:=i) hi;subst e4;have HST2:=zJh (HST.out x k _ hy.out);have hnq:num x i=q4:=zIY hq4.out;have i1:(k:Int)<(n:Int):=by omega
    have i2:(i:Int)<(x.length:Int):=by omega
    by_cases hneg:q4<0
    ·obtain ⟨m',hm',him2⟩:=HI.out.back HC.out (by omega) (i:=i) (x:=q4) hq4.out hneg;have HI2:=zJh him2;have HK2:Hid (subB c (refl c i x) (wd.drop (k+1))=res):=zJh (by
      rw [<-HR.out,HST2.out]; simp only [Int.toNat_natCast]; rw [hnq,if_pos hneg])
     clear HST2 hnq him2;go_wp2_with fail
     refine (zBP (h.below hb) hf hD i hi HQ.out hxl (by omega)).mono ?_;rintro e w5 ⟨rfl,f5,o5⟩;have z5:=hz.only o5 (hD2 wr);have hb5:Below w.heap.size w w5:=hb.trans (o5.below (fun b hb'=>hb'.1));have hs5:w2.heap.size≤w5.heap.size:=by rw [o5.size]; exact hs
     have bb:=(Below.refl w5.heap.size w5).alloc (zJm _) (.cells #[.int .i64 k] 3);have hz2:FI (Bt w2.heap.size (w5.alloc (.cells #[.int .i64 k] 3)).heap.size) (w5.alloc (.cells #[.int .i64 k] 3)) vz acc:=(z5.keep (fun b hb'=>bb.block b (by rw [o5.size]; exact (z5.2 b hb').2))).mono (fun b hb'=>⟨hb'.1,Nat.lt_of_lt_of_le hb'.2 (by rw [<-o5.size]; exact bb.size)⟩);go_wp2_with (at_builtin; go_must (refine zCP (B:=w2.heap.size) rfl _ _ rfl rfl hz2 (Nat.le_trans hs5 bb.size) rfl (RI.one w5 k) ?_ ?_))
     ·first | omega | (simp; omega)
     ·intro v' w6 f6 b6 _;have b56:Below w2.heap.size w5 w6:=(bb.mono hs5).trans b6;have hf6:FI (New w w2) w6 _ (refl c i x):=f5.keep (fun b hb'=>b56.block b (f5.2 b hb').2);go_wp2_with fail
      go_roundw
      case rel=>exact ⟨k+1,refl c i x,acc++[(k:Int)],m',_,rfl,by omega,by go_num,hf6,f6,by simp; omega,HI2,by omega,HK2,Nat.le_trans hs5 b56.size,hb5.trans (b56.mono hs2)⟩
      case measure=>simp [intOf]; omega
    ·have HK2:Hid (subB c x (wd.drop (k+1))=res):=zJh (by
      rw [<-HR.out,HST2.out]; simp only [Int.toNat_natCast]; rw [hnq,if_neg hneg])
     clear HST2 hnq;go_wp2_with fail
     go_roundw
     case rel=>exact ⟨k+1,x,acc,m,vz,rfl,by omega,by go_num,hf,hz,by omega,HI,hm,HK2,hs,hb⟩
     case measure=>simp [intOf]; omega
   ·have hkm:k=n:=by omega
    have i1:¬(k:Int)<(n:Int):=by omega
    have e0:Hid (res=decide (fd x<0)):=zJh (by rw [<-HR.out,hkm,HRN.out]);clear hkm;go_wp2_with fail
    refine (zBR hf.reads (by omega)).mono ?_;rintro e w4 ⟨rfl,rfl⟩;generalize fd x=fx at *;go_wp2_with fail
    go_ret2
    rw [e0.out];exact ⟨_,rfl,hb⟩
theorem zGa {S S1 S2:Nat→Prop} {u v1 v2:Value} {c:List (List Int)} {a b:List Int} {w:World} (h:RII S w u c) (h1:RI S1 w v1 a) (h2:RI S2 w v2 b) (pa:WdP c a) (pb:WdP c b) :
  Calls Try.prog 42 #[u,v1,v2] w fun e w'=>e=.returned (.bool (subB c (zAK c a) (zAB c b)))∧Below w.heap.size w w':=by
 have PA:=zJh pa;have PB:=zJh pb;have HIM:=zJh (zAb pa.cart pa.lets (by have:=pa.len; omega));have hla:=pa.len;have hlb:=pb.len;have hnb:=pb.nn;obtain ⟨q,hq⟩:∃q,q=subB c (zAK c a) (zAB c b):=⟨_,rfl⟩;rw [<-hq];have HQ:=zJh hq;clear pa pb hq;go_enter Try.func42,Try.ntmps42
 go_wp2_with fail
 refine (zCD h h1 PA.out.cart PA.out.lets (by omega)).mono ?_;rintro e w1 ⟨r1,rfl,f1,b1⟩;go_wp2_with fail
 refine (zA1 (h.below b1) (h2.below b1) PA.out.cart PB.out.lets (by omega)).mono ?_;rintro e w2 ⟨r2,rfl,f2,b2⟩;have b02:=zAA.step b1 b2;go_wp2_with fail
 refine (zFV (h.below b02) (f1.below b2).reads f2.reads PA.out.cart HIM.out (by omega) PB.out.nl (by omega)).mono ?_;rintro e w3 ⟨r3,rfl,b3⟩;rw [<-HQ.out];go_wp2_with fail
 go_ret
 exact ⟨rfl,zAA.step b02 b3⟩
theorem zBo {S S1 S2:Nat→Prop} {u v1 v2:Value} {c:List (List Int)} {a b:List Int} {w:World} (h:RII S w u c) (h1:RI S1 w v1 a) (h2:RI S2 w v2 b) (ha:isWd c a=true) (hb:isWd c b=true) (hl:total c≤16777216) :
  Calls Try.prog 12 #[u,v1,v2] w fun e w'=>e=.returned (.bool (subB c (zAK c a) (zAB c b)))∧Below w.heap.size w w':=by
 have PA:=zJh (wd_p ha);have PB:=zJh (wd_p hb);have hla:=PA.out.len;have hlb:=PB.out.len;have HW1:=zJh (fun (wv:World) (hb1:Below w.heap.size w wv)=>(ha ▸ zAl (h.below hb1) (h1.below hb1) hl (by omega):Calls Try.prog 34 #[u,v1] wv fun e w'=>e=.returned (.bool true)∧∃m,w'=wv.drewN m));have HW2:=zJh (fun (wv:World) (hb1:Below w.heap.size w wv)=>(hb ▸ zAl (h.below hb1) (h2.below hb1) hl (by omega):Calls Try.prog 34 #[u,v2] wv fun e w'=>e=.returned (.bool true)∧∃m,w'=wv.drewN m));have HB:=zJh (fun (wv:World) (hb1:Below w.heap.size w wv)=>zGa (h.below hb1) (h1.below hb1) (h2.below hb1) PA.out PB.out);clear ha hb h h1 h2;generalize subB c (zAK c a) (zAB c b)=q at *;go_enter Try.func12,Try.ntmps12
 go_wp2_with fail
 refine (HW1.out w (Below.refl _ _)).mono ?_;rintro e w1 ⟨rfl,m1,rfl⟩;have hb1:Below w.heap.size w (w.drewN m1):=below_drewN (Below.refl _ w) m1;generalize w.drewN m1=w1 at *;go_wp2_with fail
 refine (HW2.out w1 hb1).mono ?_;rintro e w2 ⟨rfl,m2,rfl⟩;have hb2:=below_drewN hb1 m2;generalize w1.drewN m2=w2 at *;go_wp2_with fail
 refine (HB.out w2 hb2).mono ?_;rintro e w3 ⟨rfl,b3⟩;go_wp2_with fail
 go_ret
 exact ⟨rfl,zAA.step hb2 b3⟩
theorem zDJ {S S1 S2:Nat→Prop} {u v1 v2:Value} {c:List (List Int)} {a b:List Int} {w:World} (h:RII S w u c) (h1:RI S1 w v1 a) (h2:RI S2 w v2 b) (ha:isWd c a=true) (hb:isWd c b=true) (hl:total c≤16777216) :
  Calls Try.prog 13 #[u,v1,v2] w fun e w'=>e=.returned (.bool (eqL (zAK c a) (zAK c b)))∧Below w.heap.size w w':=by
 have PA:=zJh (wd_p ha);have PB:=zJh (wd_p hb);have hla:=PA.out.len;have hlb:=PB.out.len;have HW1:=zJh (fun (wv:World) (hb1:Below w.heap.size w wv)=>(ha ▸ zAl (h.below hb1) (h1.below hb1) hl (by omega):Calls Try.prog 34 #[u,v1] wv fun e w'=>e=.returned (.bool true)∧∃m,w'=wv.drewN m));have HW2:=zJh (fun (wv:World) (hb1:Below w.heap.size w wv)=>(hb ▸ zAl (h.below hb1) (h2.below hb1) hl (by omega):Calls Try.prog 34 #[u,v2] wv fun e w'=>e=.returned (.bool true)∧∃m,w'=wv.drewN m));have HI1:=zJh (fun (wv:World) (hb1:Below w.heap.size w wv)=>zCD (h.below hb1) (h1.below hb1) PA.out.cart PA.out.lets (by omega));have HI2:=zJh (fun (wv:World) (hb1:Below w.heap.size w wv)=>zCD (h.below hb1) (h2.below hb1) PA.out.cart PB.out.lets (by omega));have hn1:(zAK c a).length=c.length:=(zAb PA.out.cart PA.out.lets (by omega)).len
 have hn2:(zAK c b).length=c.length:=(zAb PA.out.cart PB.out.lets (by omega)).len;have hn4:=PA.out.cart.le;have HS:Hid (∀wv:World,Below w.heap.size w wv→Calls Try.prog 43 #[u,v1,v2] wv fun e w'=>e=.returned (.bool (eqL (zAK c a) (zAK c b)))∧Below w.heap.size w w'):=zJh (fun wv hbv=>by
  go_enter Try.func43,Try.ntmps43
  go_wp2_with fail
  refine (HI1.out wv hbv).mono ?_;rintro e w3 ⟨r3,rfl,f3,b3⟩;have hr3:=f3.reads.any;have b03:=zAA.step hbv b3;clear f3;go_wp2_with fail
  refine (HI2.out w3 b03).mono ?_;rintro e w4 ⟨r4,rfl,f4,b4⟩;have hb4:=zAA.step b03 b4;have heq:=zDP (hr3.below b4) f4.reads (by omega) (by omega);clear f4 hr3;go_wp2_with fail
  refine heq.mono ?_;rintro e w5 ⟨rfl,m5,rfl⟩;go_wp2_with fail
  go_ret
  exact ⟨rfl,below_drewN hb4 m5⟩)
 clear ha hb h h1 h2;generalize eqL (zAK c a) (zAK c b)=q at *;go_enter Try.func13,Try.ntmps13
 go_wp2_with fail
 refine (HW1.out w (Below.refl _ _)).mono ?_;rintro e w1 ⟨rfl,m1,rfl⟩;have hb1:Below w.heap.size w (w.drewN m1):=below_drewN (Below.refl _ w) m1;generalize w.drewN m1=w1 at *;go_wp2_with fail
 refine (HW2.out w1 hb1).mono ?_;rintro e w2 ⟨rfl,m2,rfl⟩;have hb2:=below_drewN hb1 m2;generalize w1.drewN m2=w2 at *;go_wp2_with fail
 refine (HS.out w2 hb2).mono ?_;rintro e w3 ⟨rfl,b3⟩;go_wp2_with fail
 go_ret
 exact ⟨rfl,b3⟩
end Go.Proofs.Ytlchafedbnihoaa
