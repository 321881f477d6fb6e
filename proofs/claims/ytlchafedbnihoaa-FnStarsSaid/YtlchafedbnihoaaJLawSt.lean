/- The product that never shortens is associative, lies above its factors; squares: the walk of the law. Condition: none. -/
import Derived.Test.YtlchafedbnihoaaJGDrV
import Derived.Test.YtlchafedbnihoaaJStrW
import Derived.Test.YtlchafedbnihoaaJBrI
import Derived.Test.YtlchafedbnihoaaJGSt
import Derived.Deep.DeepCutAuto
namespace Go.Proofs.Ytlchafedbnihoaa
open Go.RowKit
set_option maxRecDepth 20000
set_option maxHeartbeats 8000000
theorem zCF {S S':Nat→Prop} {w:World} {u v:Value} {l:List Int} (h:RI S w u l) (h':RI S' w v l) (hl:l.length≤16777216) :
  Calls Try.prog 8 #[u,v] w fun e w'=>e=.returned (.bool true)∧Below w.heap.size w w' :=
 (zD2 h h' hl).mono fun e w' ⟨he,hb⟩=>⟨by rw [he,decide_eq_true rfl],hb⟩
theorem zGQ {S S':Nat→Prop} {w:World} {u v:Value} {l:List (List Int)} (h:RII S w u l) (h':RII S' w v l) (hl:total l≤16777216) :
  Calls Try.prog 28 #[u,v] w fun e w'=>e=.returned (.bool true)∧Below w.heap.size w w' :=
 (zFR h h' hl).mono fun e w' ⟨he,hb⟩=>⟨by rw [he,decide_eq_true rfl],hb⟩
theorem zDf (c:List (List Int)) (a b:List Int):(zAO c a b).length≤15:=by
 unfold zAO;split
 ·rename_i h
  unfold zAP at h;rw [Bool.and_eq_true,decide_eq_true_eq] at h;exact h.2
 ·simp
theorem zIP (c:List (List Int)) (a:List Int) (i:Int):(letV c a i).length≤15:=by
 unfold letV;split
 ·rename_i h
  unfold zBb at h;rw [Bool.and_eq_true,decide_eq_true_eq] at h;exact h.2
 ·simp
theorem zGP (c:List (List Int)) (a:List Int):total (powV c a)≤16777216:=by
 obtain ⟨h1,h2⟩:=zId c a;have:∀L:List (List Int),(∀z∈L,z.length≤15)→(L.map List.length).sum≤15*L.length:=fun L=>by
  induction L with
  | nil=>intro _; simp
  | cons x L ih =>
   intro h;have h3:=h x (List.mem_cons_self ..);have h4:=ih fun z hz=>h z (List.mem_cons_of_mem _ hz);rw [List.map_cons,List.sum_cons,List.length_cons]; omega
 have h3:=this _ h2;unfold total;omega
theorem zIw (c:List (List Int)) (l:List Int) (h:isWd c l=true):(zAC c [] l).length≤15:=by
 obtain ⟨h1,h2,h3⟩:=zAw h;have:=zCI (zAR.1 h1) l (x:=[]) h3 (fun y hy=>by simp at hy) (by simp; omega);simp at this; omega
structure StQ (c:List (List Int)) (a b d:List Int):Prop where
 ok:zAP c a b=true
 two:zAP c b d=true
 one:zAP c (zAO c a b) d=zAP c a (zAO c b d)
 same:zAO c (zAO c a b) d=zAO c a (zAO c b d)
 four:zAP c b.reverse a.reverse=true
 wa:isWd c a=true
 wb:isWd c b=true
 wy:isWd c (zAO c a b)=true
 wr:isWd c (zAO c a b).reverse=true
 wi:isWd c (zAO c b.reverse a.reverse)=true
 eq:zAK c (zAO c b.reverse a.reverse)=zAK c (zAO c a b).reverse
 ba:subB c (zAK c a) (zAB c (zAO c a b))=true
 bb:subB c (zAK c b) (zAB c (zAO c a b))=true
theorem zDF {c:List (List Int)} {a b:List Int} (hc:CartanP c) (ha:Lets c.length a) (hb:Lets c.length b) (hn:a.length+b.length≤15):zAP c a b=true∧zAO c a b=zAN c a b∧Lets c.length (zAN c a b)∧(zAN c a b).length≤a.length+b.length:=by
 obtain ⟨h1,h2,h3⟩:=zBW hc ha hb (by omega);have h4:zAP c a b=true:=by unfold zAP; rw [zCK hc ha (by omega),zCK hc hb (by omega),decide_eq_true (by omega)]; rfl
 exact ⟨h4,by unfold zAO; rw [if_pos h4],h1.lets,h3⟩
theorem stq {c:List (List Int)} {a b d:List Int} (ha:isWd c a=true) (hb:isWd c b=true) (la:a.length≤7) (lb:b.length≤7) (hd:Lets c.length d) (ld:d.length≤4):StQ c a b d:=by
 have pa:=wd_p ha;have pb:=wd_p hb;have hc:=pa.cart;obtain ⟨y1,y2,y3,y4⟩:=zDF hc pa.lets pb.lets (by omega);obtain ⟨e1,e2,e3,e4⟩:=zDF hc pb.lets hd (by omega);obtain ⟨i1,i2,i3,i4⟩:=zDF hc (zA4 pb.lets) (zA4 pa.lets) (by simp; omega);have has:=zFS hc pa.lets pb.lets hd (by omega);have hwd:=zCK hc hd (by omega);have hwy:=zCK hc y3 (by omega);have hwe:=zCK hc e3 (by omega);have ho:zAP c (zAO c a b) d=zAP c a (zAO c b d):=by
  rw [y2,e2];unfold zAP;rw [hwy,hwd,ha,hwe,has]
 have hbl:=zFT hc pa.lets pb.lets (by omega);refine ⟨y1,e1,ho,?_,i1,ha,hb,by rw [y2]; exact hwy,by rw [y2]; exact zCK hc (zA4 y3) (by simp; omega),by rw [i2]; exact zCK hc i3 (by simp at i4; omega),by rw [i2,y2]; exact zHC hc pa.lets pb.lets (by omega),by rw [y2]; exact hbl.1,by rw [y2]; exact hbl.2⟩;unfold zAO at ho ⊢;rw [ho];rw [if_pos y1,if_pos e1,has]
structure IdQ (c:List (List Int)) (a:List Int):Prop where
 nf:zBc c a=zAB c a
 set:SetP c (supL [] (zAB c a))
 len:(zAB c a).length≤15
 sl:(supL [] (zAB c a)).length≤15
 no:lonB c (supL [] (zAB c a))=false→zA6 c a=false
 yes:lonB c (supL [] (zAB c a))=true→(((lonV c (supL [] (zAB c a))).length:Int) == ((zAB c a).length:Int))=zA6 c a
 ll:lonB c (supL [] (zAB c a))=true→(lonV c (supL [] (zAB c a))).length≤24
theorem idq {c:List (List Int)} {a:List Int} (ha:isWd c a=true):IdQ c a:=by
 have pa:=wd_p ha;have hc:=pa.cart;obtain ⟨n1,n2⟩:=zAV hc pa.lets (by have:=pa.len; omega);have hn:=pa.nn;obtain ⟨s1,s2⟩:=zF4 (w:=zAB c a) (o:=[]) List.Pairwise.nil;have s3:=zFI (zAB c a) [];have hi:zA6 c a=decide (zAC c (zAB c a) (zAB c a)=zAB c a):=by
  unfold zA6;rw [ha,Bool.true_and];rfl
 have hmem:∀y,y∈supL [] (zAB c a)↔y∈zAB c a:=fun y=>by rw [s2 y]; simp
 have hlets:Lets c.length (supL [] (zAB c a)):=fun y hy=>n1.lets y ((hmem y).1 hy);have hset:SetP c (supL [] (zAB c a)):=⟨zJO hlets,zI4 s1,hc⟩;have h15:(supL [] (zAB c a)).length≤15:=by simp at s3; omega
 suffices hk:∀J:List Int,supL [] (zAB c a)=J→(lonB c J=false→zA6 c a=false)∧(lonB c J=true→(((lonV c J).length:Int) == ((zAB c a).length:Int))=zA6 c a) from
  ⟨zBE ha,hset,hn,h15,(hk _ rfl).1,(hk _ rfl).2,fun hl=>zEt hl⟩
 intro J hJ;rw [hJ] at hset hmem hlets h15;refine ⟨fun hl=>?_,fun hl=>?_⟩
 ·have h0:J.length≠0:=fun h0=>by unfold lonB at hl; rw [decide_eq_true h0] at hl; cases hl
  have hf:finB (subL c J)=false:=by unfold lonB at hl; rw [decide_eq_false h0,Bool.false_or] at hl; exact hl
  rw [hi,decide_eq_false_iff_not,zCy hc n1 hn hset.1 hset.2.1 hmem (by omega),hf];exact fun h=>by cases h.1
 ·by_cases h0:J.length=0
  ·have hx:zAB c a=[]:=by
    cases e:zAB c a with
    | nil=>rfl
    | cons y l =>
     have h1:=(hmem y).2 (by rw [e]; exact List.mem_cons_self ..);rw [List.length_eq_zero_iff.1 h0] at h1;cases h1
   rw [hi,hx];unfold lonV;rw [if_pos h0];rfl
  ·have hf:finB (subL c J)=true:=by unfold lonB at hl; rw [decide_eq_false h0,Bool.false_or] at hl; exact hl
   have hv:(lonV c J).length=(zAT (subL c J)).length:=by unfold lonV; rw [if_neg h0,List.length_map]
   have h1:=zCy hc n1 hn hset.1 hset.2.1 hmem (by omega);rw [hf] at h1;rw [hi,hv,Bool.eq_iff_iff,beq_iff_eq,decide_eq_true_eq,h1];exact ⟨fun h=>⟨rfl,by omega⟩,fun h=>by have:=h.2; omega⟩
set_option maxRecDepth 100000 in
theorem lawSt {v:Value} {n:Nat} {w:World} (h:RBy Any w v n) :
  Calls Try.prog 3 #[v] w fun e w'=>e=.returned (.bool true)∧Below w.heap.size w w':=by
 obtain ⟨a,cap,rfl⟩:∃a cap,v=.slice a n cap:=by obtain ⟨a,cap,e,_⟩:=h; exact ⟨a,cap,e⟩
 by_cases hbig:1048576<n
 ·go_enter Try.func3,Try.ntmps3
  go_wp2_with fail
  refine zHr.mono ?_;rintro e w1 ⟨rfl,rfl⟩;rw [decide_eq_true hbig];go_wp2_with fail
  go_ret
  exact ⟨rfl,Below.refl _ _⟩
 ·have hn:n≤1048576:=by omega
  go_enter Try.func3,Try.ntmps3
  go_wp2_with fail
  refine zHr.mono ?_;rintro e w1 ⟨rfl,rfl⟩;rw [decide_eq_false hbig];clear hbig;go_wp2_with fail
  refine (zEb h hn).mono ?_;rintro e w1 ⟨rc,ra,rb,rfl,c,u,q,hD⟩;have mc:=hD.rm;have ma:=hD.ra;have mb:=hD.rb;have b1:=hD.bl;have tc:total c≤16777216:=by have:=hD.tot; omega
  have ta:u.length≤16777216:=by have:=hD.la; omega
  have tb:q.length≤16777216:=by have:=hD.lb; omega
  have HSQ:Hid (isWd c u=true→isWd c q=true→∀d,Lets c.length d→d.length≤4→StQ c u q d):=zJh (fun h1 h2 d h3 h4=>stq h1 h2 hD.la hD.lb h3 h4);have HOK:Hid (isWd c u=true→isWd c q=true→zAP c u q=true):=zJh (fun h1 h2=>(zDF (wd_p h1).cart (wd_p h1).lets (wd_p h2).lets (by have:=hD.la; have:=hD.lb; omega)).1);have HC:Hid (isWd c u=true→1≤c.length∧c.length≤4):=zJh (fun h=>⟨(wd_p h).cart.pos,(wd_p h).cart.le⟩);clear hD;go_wp2_with fail
  refine (zAc mc ma mb tc ta tb).mono ?_;rintro e w2 ⟨rx,rfl,fx,b2⟩;have mx:=fx.any;clear fx;have mc:=mc.below b2;have ma:=ma.below b2;have mb:=mb.below b2;have b1:=zAA.step b1 b2;clear b2;go_wp2_with fail
  refine (zD3 mc ma mb tc ta tb).mono ?_;rintro e w3 ⟨ry,rfl,fy,b2⟩;have my:=fy.any;clear fy;have mc:=mc.below b2;have ma:=ma.below b2;have mb:=mb.below b2;have mx:=mx.below b2;have b1:=zAA.step b1 b2;clear b2;have ty:=zDf c u q;generalize zAP c u q=ok at *;have s0:(ok != ok)=false:=by simp
  go_wp2_with fail
  refine (zCF mx my (by omega)).mono ?_;rintro e w4 ⟨rfl,b2⟩;have mc:=mc.below b2;have ma:=ma.below b2;have mb:=mb.below b2;have mx:=mx.below b2;have my:=my.below b2;have b1:=zAA.step b1 b2;clear b2;clear mx;clear s0;go_upto_region 8 with fail
  go_cut [81] (fun bb wx=>bb=.bool (isWd c u && isWd c q)∧Hid (Below w4.heap.size w4 wx))
  case first=>as_aux_lemma =>
   have hq1:=zBG mc ma tc ta;have hq2:=fun w' (hb:Below w4.heap.size w4 w')=>zBG (mc.below hb) (mb.below hb) tc tb;clear HSQ HC;go_wp2_with fail
   refine hq1.mono ?_;rintro e wa ⟨rfl,hw1⟩;have b2:=zAH hw1;clear hw1 hq1;cases hA:isWd c u
   ·go_wp2_with fail
    go_meet
    case rel=>exact ⟨by rw [hA,Bool.false_and],zJh b2⟩
   ·go_wp2_with fail
    refine (hq2 wa b2).mono ?_;rintro e wb ⟨rfl,hw2⟩;have b3:=zAA.step b2 (zAH hw2);clear hw2 hq2;go_wp2_with fail
    go_meet
    case rel=>exact ⟨by rw [hA,Bool.true_and],zJh b3⟩
  case rest=>as_aux_lemma =>
   obtain ⟨rfl,HB⟩:=hcut;have b2:=HB.out;clear HB;have mc:=mc.below b2;have ma:=ma.below b2;have mb:=mb.below b2;have my:=my.below b2;have b1:=zAA.step b1 b2;clear b2;go_upto_if 81 with fail
   go_cut [] (fun wx=>Hid (Below w.heap.size w wx))
   case first=>as_aux_lemma =>
    cases hAB:(isWd c u && isWd c q)
    ·have HB:=zJh b1;clear mc ma mb my b1 HSQ HC HOK;go_wp2_with fail
     go_meet
     case rel=>exact HB
    ·rw [Bool.and_eq_true] at hAB;have HS2:=zJh (HSQ.out hAB.1 hAB.2);obtain rfl:ok=true:=HOK.out hAB.1 hAB.2;have hC:=HC.out hAB.1;obtain ⟨ac,cc,rfl⟩:=mc.form;clear HSQ HC HOK hAB;generalize hnc:c.length=nc at *;have HNC:=zJh hnc;clear hnc;go_wp2_with fail
     refine (zGp (i:=18) (k:=4) (h.below b1) hn (by omega) (by omega) (by omega)).mono ?_;rintro e w5 ⟨rd,rfl,d,fd,hd,hdl,b2⟩;have md:=fd.any;clear fd;have mc:=mc.below b2;have ma:=ma.below b2;have mb:=mb.below b2;have my:=my.below b2;have b1:=zAA.step b1 b2;clear b2;have Q:=zJh (HS2.out d (fun y hy=>by have:=hdl y hy; omega) hd);have td:d.length≤16777216:=by omega
     clear HS2 hd hdl;go_wp2_with fail
     refine (zAc mc my md tc (by omega) td).mono ?_;rintro e w6 ⟨r1,rfl,f1,b2⟩;have m1:=f1.any;clear f1;have mc:=mc.below b2;have ma:=ma.below b2;have mb:=mb.below b2;have my:=my.below b2;have md:=md.below b2;have b1:=zAA.step b1 b2;clear b2;go_wp2_with fail
     refine (zAc mc mb md tc tb td).mono ?_;rintro e w7 ⟨r2,rfl,f2,b2⟩;have m2:=f2.any;clear f2;have mc:=mc.below b2;have ma:=ma.below b2;have mb:=mb.below b2;have my:=my.below b2;have md:=md.below b2;have m1:=m1.below b2;have b1:=zAA.step b1 b2;clear b2;clear md;have te:=zDf c q d;go_wp2_with fail
     refine (zAc mc ma m2 tc ta (by omega)).mono ?_;rintro e w8 ⟨r3,rfl,f3,b2⟩;have m3:=f3.any;clear f3;have mc:=mc.below b2;have ma:=ma.below b2;have mb:=mb.below b2;have my:=my.below b2;have m1:=m1.below b2;have m2:=m2.below b2;have b1:=zAA.step b1 b2;clear b2;clear m2;go_wp2_with fail
     refine (zBB mb tb).mono ?_;rintro e w9 ⟨r4,rfl,f4,b2⟩;have m4:=f4.any;clear f4;have mc:=mc.below b2;have ma:=ma.below b2;have mb:=mb.below b2;have my:=my.below b2;have m1:=m1.below b2;have m3:=m3.below b2;have b1:=zAA.step b1 b2;clear b2;go_wp2_with fail
     refine (zBB ma ta).mono ?_;rintro e w10 ⟨r5,rfl,f5,b2⟩;have m5:=f5.any;clear f5;have mc:=mc.below b2;have ma:=ma.below b2;have mb:=mb.below b2;have my:=my.below b2;have m1:=m1.below b2;have m3:=m3.below b2;have m4:=m4.below b2;have b1:=zAA.step b1 b2;clear b2;go_wp2_with fail
     refine (zAc mc m4 m5 tc (by simpa using tb) (by simpa using ta)).mono ?_;rintro e w11 ⟨r6,rfl,f6,b2⟩;have m6:=f6.any;clear f6;have mc:=mc.below b2;have ma:=ma.below b2;have mb:=mb.below b2;have my:=my.below b2;have m1:=m1.below b2;have m3:=m3.below b2;have m4:=m4.below b2;have m5:=m5.below b2;have b1:=zAA.step b1 b2;clear b2;clear m4 m5;have h3:=zDf c u (zAO c q d);have n1:=m1;rw [Q.out.same] at n1;rw [Q.out.one,Q.out.two,Q.out.four];have HBA:Hid (isWd c u=true∧isWd c q=true∧isWd c (zAO c u q)=true∧isWd c (zAO c u q).reverse=true∧isWd c (zAO c q.reverse u.reverse)=true):=zJh ⟨Q.out.wa,Q.out.wb,Q.out.wy,Q.out.wr,Q.out.wi⟩;have HEQ:Hid (eqL (zAK c (zAO c q.reverse u.reverse)) (zAK c (zAO c u q).reverse)=true):=zJh (by unfold eqL; exact decide_eq_true Q.out.eq);have HB1:=zJh Q.out.ba;have HB2:=zJh Q.out.bb;clear Q te
     generalize zAP c u (zAO c q d)=o3 at *;generalize zAO c u (zAO c q d)=X3 at *;generalize zAO c q.reverse u.reverse=V at *;generalize zAO c u q=Y at *;cases o3
     ·skip
      clear n1 m3;have hb:=zBo mc ma my HBA.out.1 HBA.out.2.2.1 tc;rw [HB1.out] at hb;go_wp2_with fail
      refine (hb).mono ?_;rintro e w12 ⟨rfl,b2⟩;clear hb;have mc:=mc.below b2;have ma:=ma.below b2;have mb:=mb.below b2;have my:=my.below b2;have m6:=m6.below b2;have b1:=zAA.step b1 b2;clear b2;have hb:=zBo mc mb my HBA.out.2.1 HBA.out.2.2.1 tc;rw [HB2.out] at hb;go_wp2_with fail
      refine (hb).mono ?_;rintro e w13 ⟨rfl,b2⟩;clear hb;have mc:=mc.below b2;have ma:=ma.below b2;have mb:=mb.below b2;have my:=my.below b2;have m6:=m6.below b2;have b1:=zAA.step b1 b2;clear b2;go_wp2_with fail
      refine (zBB my (by omega)).mono ?_;rintro e w14 ⟨r7,rfl,f7,b2⟩;have m7:=f7.any;clear f7;have mc:=mc.below b2;have ma:=ma.below b2;have mb:=mb.below b2;have my:=my.below b2;have m6:=m6.below b2;have b1:=zAA.step b1 b2;clear b2;have hb:=zDJ mc m6 m7 HBA.out.2.2.2.2 HBA.out.2.2.2.1 tc;rw [HEQ.out] at hb;go_wp2_with fail
      refine (hb).mono ?_;rintro e w15 ⟨rfl,b2⟩;clear hb;have mc:=mc.below b2;have ma:=ma.below b2;have mb:=mb.below b2;have my:=my.below b2;have m6:=m6.below b2;have m7:=m7.below b2;have b1:=zAA.step b1 b2;clear b2;have HB:=zJh b1;clear mc ma mb my m6 m7 b1;go_wp2_with fail
      go_meet
      case rel=>exact HB
     ·skip
      go_wp2_with fail
      refine (zCF n1 m3 (by omega)).mono ?_;rintro e w12 ⟨rfl,b2⟩;have mc:=mc.below b2;have ma:=ma.below b2;have mb:=mb.below b2;have my:=my.below b2;have n1:=n1.below b2;have m3:=m3.below b2;have m6:=m6.below b2;have b1:=zAA.step b1 b2;clear b2;clear n1 m3;have hb:=zBo mc ma my HBA.out.1 HBA.out.2.2.1 tc;rw [HB1.out] at hb;go_wp2_with fail
      refine (hb).mono ?_;rintro e w13 ⟨rfl,b2⟩;clear hb;have mc:=mc.below b2;have ma:=ma.below b2;have mb:=mb.below b2;have my:=my.below b2;have m6:=m6.below b2;have b1:=zAA.step b1 b2;clear b2;have hb:=zBo mc mb my HBA.out.2.1 HBA.out.2.2.1 tc;rw [HB2.out] at hb;go_wp2_with fail
      refine (hb).mono ?_;rintro e w14 ⟨rfl,b2⟩;clear hb;have mc:=mc.below b2;have ma:=ma.below b2;have mb:=mb.below b2;have my:=my.below b2;have m6:=m6.below b2;have b1:=zAA.step b1 b2;clear b2;go_wp2_with fail
      refine (zBB my (by omega)).mono ?_;rintro e w15 ⟨r7,rfl,f7,b2⟩;have m7:=f7.any;clear f7;have mc:=mc.below b2;have ma:=ma.below b2;have mb:=mb.below b2;have my:=my.below b2;have m6:=m6.below b2;have b1:=zAA.step b1 b2;clear b2;have hb:=zDJ mc m6 m7 HBA.out.2.2.2.2 HBA.out.2.2.2.1 tc;rw [HEQ.out] at hb;go_wp2_with fail
      refine (hb).mono ?_;rintro e w16 ⟨rfl,b2⟩;clear hb;have mc:=mc.below b2;have ma:=ma.below b2;have mb:=mb.below b2;have my:=my.below b2;have m6:=m6.below b2;have m7:=m7.below b2;have b1:=zAA.step b1 b2;clear b2;have HB:=zJh b1;clear mc ma mb my m6 m7 b1;go_wp2_with fail
      go_meet
      case rel=>exact HB
   case rest=>as_aux_lemma =>
    have b1:=hcut.out;clear hcut HSQ HC HOK tc ta tb ty mc ma mb my;go_wp2_with fail
    refine (zD8 (h.below b1) hn).mono ?_;rintro e w41 ⟨r1,r2,rfl,f,z,hD⟩;have mf:=hD.rm;have mz:=hD.rl;have b2:=hD.bl;have tf:total f≤16777216:=by have:=hD.tot; omega
    have tz:z.length≤16777216:=by have:=hD.len; omega
    have hf5:=hD.m5;clear hD;have b1:=zAA.step b1 b2;clear b2;go_wp2_with fail
    refine (zDX mf mz tf tz).mono ?_;rintro e w42 ⟨rfl,b2⟩;have mf:=mf.below b2;have mz:=mz.below b2;have b1:=zAA.step b1 b2;clear b2;go_wp2_with fail
    refine (zDY mf mz tf tz).mono ?_;rintro e w43 ⟨rfl,b2⟩;have mf:=mf.below b2;have mz:=mz.below b2;have b1:=zAA.step b1 b2;clear b2;have HID:Hid (isWd f z=true→IdQ f z):=zJh idq;have s1:(zA6 f z != zA6 f z)=false:=by simp
    go_wp2_with fail
    refine (zBG mf mz tf tz).mono ?_;rintro e w44 ⟨rfl,hq⟩;have b2:=zAH hq;clear hq;have mf:=mf.below b2;have mz:=mz.below b2;have b1:=zAA.step b1 b2;clear b2;clear s1;go_upto_if 175 with fail
    go_cut [] (fun wx=>Hid (Below w.heap.size w wx))
    case first=>as_aux_lemma =>
     cases hA:isWd f z
     ·have HB:=zJh b1;clear mf mz b1 HID;go_wp2_with fail
      go_meet
      case rel=>exact HB
     ·have Q:=zJh (HID.out hA);have hnf:=zAe mf mz tf tz;rw [hA,Q.out.nf] at hnf;clear HID hA;go_wp2_with fail
      refine (hnf).mono ?_;rintro e w45 ⟨r3,rfl,f3,b2⟩;have mn:=f3.any;clear f3 hnf;have mf:=mf.below b2;have mz:=mz.below b2;have b1:=zAA.step b1 b2;clear b2;clear mz;have h15:=Q.out.len;go_wp2_with fail
      refine (zFW mn (by omega)).mono ?_;rintro e w46 ⟨r4,rfl,f4,b2⟩;have ms:=f4.any;clear f4;have mf:=mf.below b2;have mn:=mn.below b2;have b1:=zAA.step b1 b2;clear b2;go_wp2_with fail
      refine (zCq mf ms (by omega) tf (by have:=Q.out.sl; omega)).mono ?_;rintro e w47 ⟨r5,bq,rfl,hbq,f5,b2⟩;have ml:=f5.any;clear f5;have mf:=mf.below b2;have mn:=mn.below b2;have ms:=ms.below b2;have b1:=zAA.step b1 b2;clear b2;obtain rfl:bq=true:=hbq.2 Q.out.set;clear hbq;rw [Bool.true_and] at ml;rw [Bool.true_and];clear mf ms;obtain ⟨an,cn,rfl⟩:=mn.form;have HNO:=zJh Q.out.no;have HYES:=zJh Q.out.yes;have HLL:=zJh Q.out.ll;clear Q;generalize supL [] (zAB f z)=J at *;generalize hln:(zAB f z).length=ln at *;clear hln;generalize zA6 f z=id at *;cases hlo:lonB f J
      ·obtain rfl:id=false:=HNO.out hlo;have s2:(false != false)=false:=rfl;have HB:=zJh b1;clear mn ml b1 hlo HNO HYES HLL;go_wp2_with fail
       go_meet
       case rel=>exact HB
      ·rw [hlo,if_pos rfl] at ml;obtain ⟨al,cl,rfl⟩:=ml.form;have s3:=HYES.out hlo;generalize (lonV f J).length=lv at *;have s2:(id != id)=false:=by simp
       have HB:=zJh b1;clear mn ml b1 hlo HNO HYES HLL;go_wp2_with fail
       go_meet
       case rel=>exact HB
    case rest=>as_aux_lemma =>
     have b1:=hcut.out;clear hcut HID tf tz hf5 mf mz;go_wp2_with fail
     refine (zFE (h.below b1) hn).mono ?_;rintro e w61 ⟨rg,rv,i,rfl,g,v2,hD⟩;have mg:=hD.rm.any;have mv:=hD.rl.any;have b2:=hD.bl;have tg:total g≤16777216:=by have:=hD.total; omega
     have tv:v2.length≤16777216:=by have:=hD.len; omega
     clear hD;have b1:=zAA.step b1 b2;clear b2;go_wp2_with fail
     refine (zEC (i:=i) mg mv tg tv).mono ?_;rintro e w62 ⟨rp,rfl,fp,b2⟩;have mp:=fp.any;clear fp;have mg:=mg.below b2;have mv:=mv.below b2;have b1:=zAA.step b1 b2;clear b2;go_wp2_with fail
     refine (zED (i:=i) mg mv tg tv).mono ?_;rintro e w63 ⟨rq,rfl,fq,b2⟩;have mq:=fq.any;clear fq;have mg:=mg.below b2;have mv:=mv.below b2;have mp:=mp.below b2;have b1:=zAA.step b1 b2;clear b2;clear mg mv;have tp:(letV g v2 i).length≤16777216:=by have:=zIP g v2 i; omega
     clear tg tv;generalize letV g v2 i=P at *;generalize zBb g v2 i=o5 at *;have s5:(o5 == o5)=true:=by simp
     go_wp2_with fail
     refine (zGS (h.below b1) hn).mono ?_;rintro e w64 ⟨rh,ru,rfl,hh,u2,hD⟩;have mh:=hD.rm.any;have mu:=hD.rl.any;have b2:=hD.bl;have th:total hh≤16777216:=by have:=hD.total; omega
     have tu:u2.length≤16777216:=by have:=hD.len; omega
     clear hD;have mp:=mp.below b2;have mq:=mq.below b2;have b1:=zAA.step b1 b2;clear b2;go_wp2_with fail
     refine (zC9 mh mu th tu).mono ?_;rintro e w65 ⟨rr,rfl,fr,b2⟩;have mr:=fr.any;clear fr;have mp:=mp.below b2;have mq:=mq.below b2;have mh:=mh.below b2;have mu:=mu.below b2;have b1:=zAA.step b1 b2;clear b2;go_wp2_with fail
     refine (zDA mh mu th tu).mono ?_;rintro e w66 ⟨rs,rfl,fs,b2⟩;have ms:=fs.any;clear fs;have mp:=mp.below b2;have mq:=mq.below b2;have mh:=mh.below b2;have mu:=mu.below b2;have mr:=mr.below b2;have b1:=zAA.step b1 b2;clear b2;clear mh mu;have tr:(if isWd hh u2=true then zAC hh [] u2 else []).length≤16777216:=by
      split
      ·rename_i hw
       have:=zIw hh u2 hw;omega
      ·simp
     clear th tu;generalize (if isWd hh u2=true then zAC hh [] u2 else [])=R at *;generalize isWd hh u2=o7 at *;have s7:(o7 == o7)=true:=by simp
     go_wp2_with fail
     refine (zFF (h.below b1) hn).mono ?_;rintro e w67 ⟨rj,rz,rfl,j,z2,hD⟩;have mj:=hD.rm;have mz:=hD.rl;have b2:=hD.bl;have tj:total j≤16777216:=by have:=hD.tot; omega
     have tz:z2.length≤16777216:=by have:=hD.len; omega
     clear hD;have mp:=mp.below b2;have mq:=mq.below b2;have mr:=mr.below b2;have ms:=ms.below b2;have b1:=zAA.step b1 b2;clear b2;go_wp2_with fail
     refine (zFN (h.below b1) hn).mono ?_;rintro e w68 ⟨rk,rt,rfl,k,t,hD⟩;have mk:=hD.rm;have mt:=hD.rl;have b2:=hD.bl;have tk:total k≤16777216:=by have:=hD.tot; omega
     have tt:t.length≤16777216:=by have:=hD.len; omega
     clear hD;have mp:=mp.below b2;have mq:=mq.below b2;have mr:=mr.below b2;have ms:=ms.below b2;have mj:=mj.below b2;have mz:=mz.below b2;have b1:=zAA.step b1 b2;clear b2;go_wp2_with fail
     refine (zCF mp mq tp).mono ?_;rintro e w69 ⟨rfl,b2⟩;have mp:=mp.below b2;have mq:=mq.below b2;have mr:=mr.below b2;have ms:=ms.below b2;have mj:=mj.below b2;have mz:=mz.below b2;have mk:=mk.below b2;have mt:=mt.below b2;have b1:=zAA.step b1 b2;clear b2;clear mp mq;go_wp2_with fail
     refine (zCF mr ms tr).mono ?_;rintro e w70 ⟨rfl,b2⟩;have mr:=mr.below b2;have ms:=ms.below b2;have mj:=mj.below b2;have mz:=mz.below b2;have mk:=mk.below b2;have mt:=mt.below b2;have b1:=zAA.step b1 b2;clear b2;clear mr ms;go_wp2_with fail
     refine (zEE mj mz tj tz).mono ?_;rintro e w71 ⟨ra,rfl,fa,b2⟩;have ma:=RII.any fa.reads;clear fa;have mj:=mj.below b2;have mz:=mz.below b2;have mk:=mk.below b2;have mt:=mt.below b2;have b1:=zAA.step b1 b2;clear b2;go_wp2_with fail
     refine (zEF mj mz tj tz).mono ?_;rintro e w72 ⟨rb,rfl,fb,b2⟩;have mb:=RII.any fb.reads;clear fb;have mj:=mj.below b2;have mz:=mz.below b2;have mk:=mk.below b2;have mt:=mt.below b2;have ma:=ma.below b2;have b1:=zAA.step b1 b2;clear b2;clear mj mz;go_wp2_with fail
     refine (zGQ ma mb (zGP j z2)).mono ?_;rintro e w73 ⟨rfl,b2⟩;have mk:=mk.below b2;have mt:=mt.below b2;have ma:=ma.below b2;have mb:=mb.below b2;have b1:=zAA.step b1 b2;clear b2;clear ma mb;go_wp2_with fail
     refine (zEZ mk mt tk tt).mono ?_;rintro e w74 ⟨rfl,b2⟩;have mk:=mk.below b2;have mt:=mt.below b2;have b1:=zAA.step b1 b2;clear b2;go_wp2_with fail
     refine (zEa mk mt tk tt).mono ?_;rintro e w75 ⟨rfl,b2⟩;have mk:=mk.below b2;have mt:=mt.below b2;have b1:=zAA.step b1 b2;clear b2;clear mk mt;generalize covB k t=o9 at *;have s9:(o9 == o9)=true:=by simp
     go_wp2_with fail
     go_ret
     exact ⟨rfl,b1⟩
end Go.Proofs.Ytlchafedbnihoaa
