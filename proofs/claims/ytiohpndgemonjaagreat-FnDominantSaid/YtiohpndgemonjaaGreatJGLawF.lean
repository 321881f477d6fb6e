/- Every weight is in the orbit of one dominant weight, and an orbit times its stabilizer is the group: the walk of the law. Condition: none. -/
import Derived.Test.YtiohpndgemonjaaGreatJGDrM
import Derived.Test.YtiohpndgemonjaaGreatJGFd
import Derived.Test.YtiohpndgemonjaaGreatJGWs
import Derived.Deep.DeepCutAuto
namespace Go.Proofs.YtiohpndgemonjaaGreat
open Go.RowKit
set_option maxRecDepth 20000
set_option maxHeartbeats 8000000
theorem zC1 {S S':Nat→Prop} {w:World} {u v:Value} {l:List Int} (h:RI S w u l) (h':RI S' w v l) (hl:l.length≤16777216) :
  Calls Tryz.prog 8 #[u,v] w fun e w'=>e=.returned (.bool true)∧Below w.heap.size w w' :=
 (zEI h h' hl).mono fun e w' ⟨he,hb⟩=>⟨by rw [he,decide_eq_true rfl],hb⟩
theorem zEJ {S S':Nat→Prop} {w:World} {u v:Value} {l:List (List Int)} (h:RII S w u l) (h':RII S' w v l) (hl:total l≤16777216) :
  Calls Tryz.prog 32 #[u,v] w fun e w'=>e=.returned (.bool true)∧Below w.heap.size w w' :=
 (zJb h h' hl).mono fun e w' ⟨he,hb⟩=>⟨by rw [he,decide_eq_true rfl],hb⟩
structure FdQ (c:List (List Int)) (l d1 d2:List Int) (nc:Nat):Prop where
 pos:1≤nc
 dm:dom d1=true
 back:d2.length≤15→zCj c d2 d1=l
 turn:∀i,i<nc→zAZ c (refl c i l)=true∧dom1 c (refl c i l)=d1
 cart:isC c=true
 len:l.length=nc
 few:(stab c d1).length≤4
 orb:obOk c l=true→zB8 c d1=true→l∈obR c l∧(obR c l).length≤200∧(stab c d1=[]→(obR c l).length=szC c) ∧
  (stab c d1≠[]→Pts nc (stab c d1)∧Asc (stab c d1)∧(obR c l).length*szC (subL c (stab c d1))=szC c)∧szC c≤2000000000000∧szC (subL c (stab c d1))≤2000000000000
theorem zMd (c:List (List Int)):szC c≤2000000000000:=by
 unfold szC;split
 ·rename_i hf
  have hF:=zDq hf;rw [<-hF.texts.size];have h1:=zJD (zL6 hF) (nmL c).length (zQj _);rw [List.take_length] at h1;refine Nat.le_trans h1 (Nat.le_trans (Nat.pow_le_pow_right (by decide) hF.texts.few) (by decide))
 ·omega
theorem fdq {c:List (List Int)} {l:List Int} (h:zAZ c l=true) (hs:∀x∈l,-2≤x∧x≤2):FdQ c l (dmL c l) (nf c 30 l) c.length:=by
 obtain ⟨hF,hc,hT,hD⟩:=zAf h;have hd:=zQB h;have hdl:(dmL c l).length=c.length:=((zDM hT hc hD.1).2.wt hT hc hD.1).len;refine ⟨hc.pos,hd,zOh h,fun i hi=>zOj h hs hi,zAM.2 hc,hD.1.len,by have:=zKQ c (dmL c l); have:=hc.le; omega,fun hk hz=>?_⟩;have hst:stab c (dmL c l)=zAH (dmL c l) 0:=by
  unfold zB8 at hz;unfold stab;cases hw:isW c (dmL c l) with
  | false=>rw [hw] at hz; cases hz
  | true=>rw [if_pos rfl,if_pos hd]
 obtain ⟨_,o2,o3,o4,o5⟩:=zNA hk;obtain ⟨p1,p2⟩:=zMs (c:=c) hdl;rw [hst];exact ⟨o2,o3,o4,fun hn=>⟨p1,p2,(o5 hn).2⟩,zMd _,zMd _⟩
set_option maxRecDepth 100000 in
theorem lawFdom {v:Value} {n:Nat} {w:World} (h:RBy Any w v n) :
  Calls Tryz.prog 3 #[v] w fun e w'=>e=.returned (.bool true)∧Below w.heap.size w w':=by
 obtain ⟨a,cap,rfl⟩:∃a cap,v=.slice a n cap:=by obtain ⟨a,cap,e,_⟩:=h; exact ⟨a,cap,e⟩
 by_cases hbig:1048576<n
 ·go_enter Tryz.func3,Tryz.ntmps3
  go_wp2_with fail
  refine zNv.mono ?_;rintro e w1 ⟨rfl,rfl⟩;rw [decide_eq_true hbig];go_wp2_with fail
  go_ret
  exact ⟨rfl,Below.refl _ _⟩
 ·have hn:n≤1048576:=by omega
  go_enter Tryz.func3,Tryz.ntmps3
  go_wp2_with fail
  refine zNv.mono ?_;rintro e w1 ⟨rfl,rfl⟩;rw [decide_eq_false hbig];clear hbig;go_wp2_with fail
  refine (zIJ h hn).mono ?_;rintro e w1 ⟨rc,rl,rfl,c,l,hD⟩;have hrm:=hD.rm;have hrl:=hD.rl;have b1:=hD.bl;have tc:total c≤16777216:=by have:=hD.total; omega
  have tl:l.length≤16777216:=by have:=hD.len; omega
  have HSM:=zQe hD.small;have HL6:=zQe hD.len;clear hD;obtain ⟨ac,cc,rfl⟩:=hrm.form;obtain ⟨al,cl,rfl⟩:=hrl.form;have k1:(dom1 c l).length≤16777216:=by have:=zOc c l; omega
  have k2:(dom2 c l).length≤16777216:=by have:=zOd c l; omega
  have HF:Hid (zAZ c l=true→FdQ c l (dom1 c l) (dom2 c l) c.length):=zQe (fun hk=>by
   have:=fdq hk HSM.out;unfold dom1 dom2;rw [if_pos hk,if_pos hk];exact this)
  have HTL:=zQe tl;generalize hnc:c.length=nc at *;generalize hnl:l.length=nl at *;have HNC:=zQe hnc;have HNL:=zQe hnl;clear hnc hnl;go_wp2_with fail
  refine (zCX hrm hrl tc (by rw [HNL.out]; exact tl)).mono ?_;rintro e w2 ⟨r1,r2,rfl,f1,f2,-,b2⟩;have b02:=zAA.step b1 b2;go_wp2_with fail
  refine (zDn (hrm.below b2) (hrl.below b2) tc (by rw [HNL.out]; exact tl)).mono ?_;rintro e w3 ⟨r3,r4,rfl,f3,f4,-,b3⟩;have b03:=zAA.step b02 b3;have b13:=zAA.step b2 b3;have g1:=f1.reads.below b3;have g2:=f2.reads.below b3;have g3:=f3.reads;have g4:=f4.reads;have g1:=RI.any g1;have g2:=RI.any g2;have g3:=RI.any g3;have g4:=RI.any g4;have hrm:=hrm.below b13;have hrl:=hrl.below b13;obtain ⟨a4,c4,rfl⟩:=g4.form;generalize hok:zAZ c l=ok at *;generalize hd1:dom1 c l=d1 at *;generalize hd2:dom2 c l=d2 at *;have s0:(ok != ok)=false:=by simp
  have HOK:=zQe hok;clear hok hd1 hd2 f1 f2 f3 f4 b2 b3 b13 b1 b02;generalize hn2:d2.length=n2 at *;have HN2:=zQe hn2;clear hn2;go_wp2_with fail
  refine (zC1 g1 g3 k1).mono ?_;rintro e w4 ⟨rfl,b4⟩;have g2:=g2.below b4;have g4:=g4.below b4;have b04:=zAA.step b03 b4;go_wp2_with fail
  refine (zC1 g2 g4 (by rw [HN2.out]; exact k2)).mono ?_;rintro e w5 ⟨rfl,b5⟩;have b05:=zAA.step b04 b5;have b35:=zAA.step b4 b5;have hrm:=hrm.below b35;have hrl:=hrl.below b35;have g3:=g3.below b35;have g4:=g4.below b5;clear g1 g2 b4 b5 b04 b03 b35;go_upto_if 87 with fail
  go_cut [] (fun wx=>Hid (Below w.heap.size w wx))
  case first=>as_aux_lemma =>
   cases ok
   ·have HB:=zQe b05;clear g3 g4 hrm hrl b05;go_wp2_with fail
    go_meet
    case rel=>exact HB
   ·have HQ:=zQe (HF.out rfl);have hdm:=HQ.out.dm;have HBK:Hid (n2≤15→zCj c d2 d1=l):=zQe (fun h15=>HQ.out.back (by rw [HN2.out]; exact h15));have hpos:=HQ.out.pos;clear HF;go_upto_region 9 with fail
    go_cut [104] (fun bb wx=>bb=.bool false∧Hid (Below w5.heap.size w5 wx))
    case first=>as_aux_lemma =>
     by_cases h15:n2≤15
     ·have i15:(n2:Int)≤15:=by omega
      have HAC:=zQe (HBK.out h15);clear h15 HBK;go_wp2_with fail
      refine (zBB g3 k1).mono ?_;rintro e w6 ⟨rfl,rfl⟩;rw [hdm];clear hdm;go_wp2_with fail
      refine (zF3 hrm g4 g3 tc (by rw [HN2.out]; exact k2) k1).mono ?_;rintro e w6 ⟨r6,rfl,f6,b6⟩;rw [HAC.out] at f6;go_wp2_with fail
      refine (zC1 f6.reads (hrl.below b6) (by rw [HNL.out]; exact tl)).mono ?_;rintro e w7 ⟨rfl,b7⟩;have HB:=zQe (zAA.step b6 b7);clear f6 b6 b7 g3 g4 hrm hrl;go_wp2_with fail
      go_meet
      case rel=>exact ⟨rfl,HB⟩
     ·have i15:¬(n2:Int)≤15:=by omega
      clear h15 HBK;go_wp2_with fail
      refine (zBB g3 k1).mono ?_;rintro e w6 ⟨rfl,rfl⟩;rw [hdm];clear hdm g3 g4 hrm hrl;go_wp2_with fail
      go_meet
      case rel=>exact ⟨rfl,zQe (Below.refl _ _)⟩
    case rest=>as_aux_lemma =>
     obtain ⟨rfl,HB⟩:=hcut;have bc:=HB.out;clear HB hdm HBK;have hrm:=hrm.below bc;have hrl:=hrl.below bc;have g3:=g3.below bc;have b0:=zAA.step b05 bc;clear b05 bc g4;have n0:((nc:Int) == 0)=false:=by simp; omega
     go_wp2_with fail
     refine (atDr (i:=6) (h.below b0) hn (by omega)).mono ?_;rintro e w10 ⟨x,hx,rfl,rfl⟩;obtain ⟨i,hi⟩:∃i:Nat,i=x % nc:=⟨_,rfl⟩;have hil:i<nc:=by rw [hi]; exact Nat.mod_lt _ (by omega)
     have e1:(x:Int) % (nc:Int)=(i:Int):=by rw [hi]; omega
     obtain ⟨D1,D2⟩:=HQ.out.turn i hil;clear hi hx;have HD1:=zQe D1;have HD2:=zQe D2;clear D1 D2;go_wp2_with fail
     refine (zFK hrm hrl tc HQ.out.cart (by rw [HQ.out.len,HNC.out]) (by rw [HNC.out]; exact hil)).mono ?_;rintro e w11 ⟨r11,rfl,f11,b11⟩;have tr:(refl c i l).length≤16777216:=by rw [zAU,HNL.out]; exact HTL.out
     go_wp2_with fail
     refine (zCX (hrm.below b11) f11.reads tc tr).mono ?_;rintro e w12 ⟨r12,r13,rfl,f12,f13,-,b12⟩;rw [HD2.out] at f12;rw [HD1.out];have b112:=zAA.step b11 b12;have b012:=zAA.step b0 b112;have hrm:=hrm.below b112;have hrl:=hrl.below b112;have g3:=g3.below b112;clear b11 b12 b112 f11 f13 HD1 HD2 b0;go_wp2_with fail
     refine (zC1 f12.reads g3 k1).mono ?_;rintro e w13 ⟨rfl,b13⟩;have b013:=zAA.step b012 b13;have hrm:=hrm.below b13;have hrl:=hrl.below b13;have g3:=g3.below b13;clear f12 b13 b012;go_wp2_with fail
     refine (zGQ hrm hrl tc (by rw [HNL.out]; exact tl)).mono ?_;rintro e w14 ⟨r14,rfl,f14,b14⟩;have b014:=zAA.step b013 b14;have hrm:=hrm.below b14;have hrl:=hrl.below b14;have g3:=g3.below b14;clear b14 b013;go_wp2_with fail
     refine (zDT hrm g3 tc k1).mono ?_;rintro e w15 ⟨r15,rfl,f15,b15⟩;have b015:=zAA.step b014 b15;have hrm:=hrm.below b15;have hrl:=hrl.below b15;have fo:=f14.any.below b15;clear b15 b014 g3 f14;have HO:=zQe HQ.out.orb;obtain ⟨a14,c14,rfl⟩:=fo.form;have HTO:=zQe (zEo c l);generalize hob:obOk c l=ob at *;generalize hst:zB8 c d1=st at *;have HOB:=zQe hob;have HST:=zQe hst;clear hob hst;cases ob
     ·have HB:=zQe b015;clear fo f15 hrm hrl b015 HO;go_wp2_with fail
      go_meet
      case rel=>exact HB
     ·cases st
      ·have HB:=zQe b015;clear fo f15 hrm hrl b015 HO;go_wp2_with fail
       go_meet
       case rel=>exact HB
      ·obtain ⟨o1,o2,o3,o4,o5,o6⟩:=HO.out rfl rfl;have hto:total (obR c l)≤16777216:=by have:=HTO.out; omega
       have HM:=zQe o1;have H3:=zQe o3;have H4:=zQe o4;have H5:=zQe o5;have H6:=zQe o6;have hfew:=HQ.out.few;clear HO o1 o3 o4 o5 o6;generalize hS:stab c d1=S at *;clear hS;by_cases hS:S=[]
       ·subst hS;have hz:=H3.out rfl;have HZ:=zQe hz;clear hz H3 H4 H6;go_wp2_with fail
        refine (zHv hrm f15.reads (zAM.1 HQ.out.cart) tc).mono ?_;rintro e w16 ⟨r16,rfl,b16⟩;have b016:=zAA.step b015 b16;have hrm:=hrm.below b16;have hrl:=hrl.below b16;have fo:=fo.below b16;clear b16 b015 f15;have hin:=zIT fo hrl hto HM.out;generalize hmo:(obR c l).length=mo at *;clear hmo;go_wp2_with fail
        refine hin.mono ?_;rintro e w17 ⟨rfl,b17⟩;have b017:=zAA.step b016 b17;have hrm:=hrm.below b17;clear hin b17 b016;go_wp2_with fail
        refine (zFu hrm tc).mono ?_;rintro e w18 ⟨rfl,b18⟩;have HB:=zQe (zAA.step b017 b18);have h5:=H5.out;have eq:((mo:Int)*1 != (szC c:Int))=false:=by rw [<-HZ.out]; simp
        have eq2:((mo:Int) != (szC c:Int))=false:=by rw [<-HZ.out]; simp
        clear b18 b017 hrm fo hrl HZ;generalize szC c=z at *;go_wp2_with fail
        go_meet
        case rel=>exact HB
       ·obtain ⟨p1,p2,p3⟩:=H4.out hS;have hS1:1≤S.length:=by cases S with
         | nil=>exact absurd rfl hS
         | cons a b=>simp
        have HP3:=zQe p3;have hSl:S.length≤16777216:=by omega
        have hts:total (subL c S)≤16777216:=by
         have:=zFx (A:=4) (B:=4) (L:=subL c S) (by simp only [subL,List.length_map]; exact hfew) (fun x hx=>by
          obtain ⟨i,_,rfl⟩:=List.mem_map.1 hx;simp only [rowL,List.length_map]; exact hfew)
         omega
        go_wp2_with fail
        refine (zC4 hrm f15.reads (zAM.1 HQ.out.cart) tc (by rw [HNC.out]; exact p1) p2 hS1 hSl).mono ?_;rintro e w16 ⟨r16,rfl,f16,b16⟩;have b016:=zAA.step b015 b16;have hrm:=hrm.below b16;have hrl:=hrl.below b16;have fo:=fo.below b16;clear b16 b015 f15 p1 p2 p3 H3 H4 hS hS1 hSl;go_wp2_with fail
        refine (zFu f16.reads hts).mono ?_;rintro e w17 ⟨rfl,b17⟩;have b017:=zAA.step b016 b17;have hrm:=hrm.below b17;have hrl:=hrl.below b17;have fo:=fo.below b17;clear b17 b016 f16 hts;have hin:=zIT fo hrl hto HM.out;have h6:=H6.out;generalize hzs:szC (subL c S)=zs at *;clear hzs;generalize hmo:(obR c l).length=mo at *;clear hmo;have h5:=H5.out;have e2:(mo:Int)*(zs:Int)=(szC c:Int):=by rw [<-HP3.out,Int.natCast_mul]
        go_wp2_with fail
        refine hin.mono ?_;rintro e w18 ⟨rfl,b18⟩;have b018:=zAA.step b017 b18;have hrm:=hrm.below b18;clear hin b18 b017;go_wp2_with fail
        refine (zFu hrm tc).mono ?_;rintro e w19 ⟨rfl,b19⟩;have HB:=zQe (zAA.step b018 b19);have eq2:(wrap64 (szC c:Int) != (szC c:Int))=false:=by rw [zDv (by omega) (by omega)]; simp
        clear b19 b018 hrm fo hrl HP3;generalize szC c=z at *;go_wp2_with fail
        go_meet
        case rel=>exact HB
  case rest=>as_aux_lemma =>
   have b0:=hcut.out;clear hcut g3 g4 hrm hrl b05;go_wp2_with fail
   refine (zGI (h.below b0) hn).mono ?_;rintro e w1 ⟨x1,x2,x3,rfl,M1,l1,q1,hD⟩;have m1:=RII.any hD.rm;have m2:=RI.any hD.rl;have m3:=RI.any hD.rq;have t1:total M1≤16777216:=by have:=hD.tot; omega
   have t2:l1.length≤16777216:=by have:=hD.len; omega
   have t3:q1.length≤16777216:=by have:=hD.qlen; omega
   have b1:=zAA.step b0 hD.bl;clear hD b0;go_wp2_with fail
   refine (zGC (h.below b1) hn).mono ?_;rintro e w2 ⟨y1,y2,rfl,M2,l2,hD⟩;have n1:=RII.any hD.rm;have n2:=RI.any hD.rl;have t4:total M2≤16777216:=by have:=hD.tot; omega
   have t5:l2.length≤16777216:=by have:=hD.len; omega
   have b2:=hD.bl;clear hD;have m1:=m1.below b2;have m2:=m2.below b2;have m3:=m3.below b2;have b1:=zAA.step b1 b2;clear b2;go_wp2_with fail
   refine (zOX n1 n2 t4 t5).mono ?_;rintro e w3 ⟨p1,rfl,f1,b2⟩;have p1r:=RII.any f1.any;have m1:=m1.below b2;have m2:=m2.below b2;have m3:=m3.below b2;have n1:=n1.below b2;have n2:=n2.below b2;have b1:=zAA.step b1 b2;clear b2 f1;go_wp2_with fail
   refine (zOZ n1 n2 t4 t5).mono ?_;rintro e w4 ⟨p2,rfl,f1,b2⟩;have p2r:=RII.any f1.any;have p1r:=p1r.below b2;have m1:=m1.below b2;have m2:=m2.below b2;have m3:=m3.below b2;have n1:=n1.below b2;have n2:=n2.below b2;have b1:=zAA.step b1 b2;clear b2 f1;have tdb:total (dbR M2 l2)≤16777216:=Nat.le_trans (zHN M2 l2) (by decide);have HBW:Hid (∀(k:Nat) (x:List Int),(dbR M2 l2)[k]? = some x→wbB M2 x l2=true∧x.length≤16777216):=zQe (fun k x hx=>⟨zM9 (zQg hx),Nat.le_trans (zIa hx) (Nat.le_trans (zHN M2 l2) (by decide))⟩);generalize dbOk M2 l2=ok2 at *;generalize dbR M2 l2=L2 at *;obtain ⟨ap2,cp2,rfl⟩:=p2r.form;have hmm:L2.length≤16777216:=by have:=tdb; unfold total at this; omega
   generalize hm2:L2.length=mm at *;clear hm2;go_wp2_with fail
   go_loopw [31] (fun kk wr=>∃(k:Nat),k≤mm∧kk=.int .i64 k∧Below w4.heap.size w4 wr) (fun kk _=>mm-(intOf kk).toNat)
   case atStart=>exact ⟨0,Nat.zero_le _,rfl,Below.refl _ _⟩
   case round =>
    obtain ⟨k,hk,rfl,hb⟩:=hrel;by_cases hlt:k<mm
    ·have i1:(k:Int)<(mm:Int):=by omega
     obtain ⟨b,o,r,x,rfl,hc0,hx,hx0⟩:=(p2r.below hb).at hlt;obtain ⟨g1,g2⟩:=HBW.out k x hx0.out;have hwb:=zC5 (n1.below hb) hx (n2.below hb) t4 g2 t5;rw [g1] at hwb;clear g1 g2 hx0 hx;go_wp2_with fail
     refine hwb.mono ?_;rintro e w5 ⟨rfl,b5⟩;have hb5:=zAA.step hb b5;clear hwb b5 hb;go_wp2_with fail
     go_roundw
     case rel=>exact ⟨k+1,by omega,by go_num,hb5⟩
     case measure=>simp [intOf]; omega
    ·as_aux_lemma =>
     have i1:¬(k:Int)<(mm:Int):=by omega
     have m1:=m1.below hb;have m2:=m2.below hb;have m3:=m3.below hb;have p1r:=p1r.below hb;have p2r:=p2r.below hb;have b1:=zAA.step b1 hb;clear HBW hb n1 n2;go_wp2_with fail
     refine (zJf (h.below b1) hn).mono ?_;rintro e w5 ⟨y3,y4,rfl,M3,l3,hD⟩;have n1:=RII.any hD.rm;have n2:=RI.any hD.rl;have t4:total M3≤16777216:=by have:=hD.tot; omega
     have t5:l3.length≤16777216:=by have:=hD.len; omega
     have b2:=hD.bl;clear hD;have m1:=m1.below b2;have m2:=m2.below b2;have m3:=m3.below b2;have p1r:=p1r.below b2;have p2r:=p2r.below b2;have b1:=zAA.step b1 b2;clear b2;go_wp2_with fail
     refine (zPj n1 n2 t4 t5).mono ?_;rintro e w6 ⟨p3,rfl,f1,b2⟩;have p3r:=RII.any f1.any;have m1:=m1.below b2;have m2:=m2.below b2;have m3:=m3.below b2;have p1r:=p1r.below b2;have p2r:=p2r.below b2;have n1:=n1.below b2;have n2:=n2.below b2;have b1:=zAA.step b1 b2;clear b2 f1;go_wp2_with fail
     refine (zPk n1 n2 t4 t5).mono ?_;rintro e w7 ⟨p4,rfl,f1,b2⟩;have p4r:=RII.any f1.any;have m1:=m1.below b2;have m2:=m2.below b2;have m3:=m3.below b2;have p1r:=p1r.below b2;have p2r:=p2r.below b2;have p3r:=p3r.below b2;have b1:=zAA.step b1 b2;have tws:total (wsR M3 l3)≤16777216:=by have:=zMr M3 l3; omega
     clear b2 f1 n1 n2 t4 t5;generalize wsOk M3 l3=ok3 at *;generalize wsR M3 l3=L3 at *;go_wp2_with fail
     refine (zMB (h.below b1) hn).mono ?_;rintro e w8 ⟨y5,y6,rfl,M4,l4,hD⟩;have n1:=RII.any hD.rm;have n2:=RI.any hD.rl;have t4:total M4≤16777216:=by have:=hD.tot; omega
     have t5:l4.length≤16777216:=by have:=hD.len; omega
     have b2:=hD.bl;clear hD;have m1:=m1.below b2;have m2:=m2.below b2;have m3:=m3.below b2;have p1r:=p1r.below b2;have p2r:=p2r.below b2;have p3r:=p3r.below b2;have p4r:=p4r.below b2;have b1:=zAA.step b1 b2;clear b2;go_wp2_with fail
     refine (zGQ n1 n2 t4 t5).mono ?_;rintro e w9 ⟨p5,rfl,f1,b2⟩;have p5r:=RII.any f1.any;have m1:=m1.below b2;have m2:=m2.below b2;have m3:=m3.below b2;have p1r:=p1r.below b2;have p2r:=p2r.below b2;have p3r:=p3r.below b2;have p4r:=p4r.below b2;have n1:=n1.below b2;have n2:=n2.below b2;have b1:=zAA.step b1 b2;clear b2 f1;go_wp2_with fail
     refine (zK7 n1 n2 t4 t5).mono ?_;rintro e w10 ⟨p6,rfl,f1,b2⟩;have p6r:=RII.any f1.any;have m1:=m1.below b2;have m2:=m2.below b2;have m3:=m3.below b2;have p1r:=p1r.below b2;have p2r:=p2r.below b2;have p3r:=p3r.below b2;have p4r:=p4r.below b2;have p5r:=p5r.below b2;have b1:=zAA.step b1 b2;have tob:total (obR M4 l4)≤16777216:=by have:=zEo M4 l4; omega
     clear b2 f1 n1 n2 t4 t5;generalize obOk M4 l4=ok4 at *;generalize obR M4 l4=L4 at *;go_wp2_with fail
     refine (zGx (h.below b1) hn).mono ?_;rintro e w11 ⟨y7,y8,rfl,M5,l5,hD⟩;have n1:=RII.any hD.rm;have n2:=RI.any hD.rl;have t4:total M5≤16777216:=by have:=hD.tot; omega
     have t5:l5.length≤16777216:=by have:=hD.len; omega
     have b2:=hD.bl;clear hD;have m1:=m1.below b2;have m2:=m2.below b2;have m3:=m3.below b2;have p1r:=p1r.below b2;have p2r:=p2r.below b2;have p3r:=p3r.below b2;have p4r:=p4r.below b2;have p5r:=p5r.below b2;have p6r:=p6r.below b2;have b1:=zAA.step b1 b2;clear b2;go_wp2_with fail
     refine (zDT n1 n2 t4 t5).mono ?_;rintro e w12 ⟨p7,rfl,f1,b2⟩;have p7r:=f1.any;have m1:=m1.below b2;have m2:=m2.below b2;have m3:=m3.below b2;have p1r:=p1r.below b2;have p2r:=p2r.below b2;have p3r:=p3r.below b2;have p4r:=p4r.below b2;have p5r:=p5r.below b2;have p6r:=p6r.below b2;have n1:=n1.below b2;have n2:=n2.below b2;have b1:=zAA.step b1 b2;clear b2 f1;go_wp2_with fail
     refine (zFv n1 n2 t4 t5).mono ?_;rintro e w13 ⟨p8,rfl,f1,b2⟩;have p8r:=f1.any;have m1:=m1.below b2;have m2:=m2.below b2;have m3:=m3.below b2;have p1r:=p1r.below b2;have p2r:=p2r.below b2;have p3r:=p3r.below b2;have p4r:=p4r.below b2;have p5r:=p5r.below b2;have p6r:=p6r.below b2;have p7r:=p7r.below b2;have b1:=zAA.step b1 b2;have tst:(stab M5 l5).length≤16777216:=by have:=zKQ M5 l5; omega
     clear b2 f1 n1 n2 t4 t5;generalize zB8 M5 l5=ok5 at *;generalize stab M5 l5=L5 at *;go_wp2_with fail
     refine (zIX (h.below b1) hn).mono ?_;rintro e w14 ⟨p9,rfl,l6,p9r,t6,b2⟩;have p9r:=RI.any p9r;have m1:=m1.below b2;have m2:=m2.below b2;have m3:=m3.below b2;have p1r:=p1r.below b2;have p2r:=p2r.below b2;have p3r:=p3r.below b2;have p4r:=p4r.below b2;have p5r:=p5r.below b2;have p6r:=p6r.below b2;have p7r:=p7r.below b2;have p8r:=p8r.below b2;have b1:=zAA.step b1 b2;have t6:l6.length≤16777216:=by omega
     clear b2;go_wp2_with fail
     refine (zC5 m1 m2 m3 t1 t2 t3).mono ?_;rintro e w15 ⟨rfl,b2⟩;have hws:=zFH (m1.below b2) (m2.below b2) (m3.below b2) t1 t2 t3;have p1r:=p1r.below b2;have p2r:=p2r.below b2;have p3r:=p3r.below b2;have p4r:=p4r.below b2;have p5r:=p5r.below b2;have p6r:=p6r.below b2;have p7r:=p7r.below b2;have p8r:=p8r.below b2;have p9r:=p9r.below b2;have b1:=zAA.step b1 b2;clear b2 m1 m2 m3;generalize wbB M1 l1 q1=wb at *;have s1:(wb == wb)=true:=by simp
     have s2:(ok2 == ok2)=true:=by simp
     have s3:(ok3 == ok3)=true:=by simp
     have s4:(ok4 == ok4)=true:=by simp
     have s5:(ok5 == ok5)=true:=by simp
     go_wp2_with fail
     refine hws.mono ?_;rintro e w16 ⟨rfl,b2⟩;have p1r:=p1r.below b2;have p2r:=p2r.below b2;have p3r:=p3r.below b2;have p4r:=p4r.below b2;have p5r:=p5r.below b2;have p6r:=p6r.below b2;have p7r:=p7r.below b2;have p8r:=p8r.below b2;have p9r:=p9r.below b2;have b1:=zAA.step b1 b2;clear b2 hws;go_wp2_with fail
     refine (zEJ p1r p2r tdb).mono ?_;rintro e w17 ⟨rfl,b2⟩;have p3r:=p3r.below b2;have p4r:=p4r.below b2;have p5r:=p5r.below b2;have p6r:=p6r.below b2;have p7r:=p7r.below b2;have p8r:=p8r.below b2;have p9r:=p9r.below b2;have b1:=zAA.step b1 b2;clear b2 p1r p2r;go_wp2_with fail
     refine (zEJ p3r p4r tws).mono ?_;rintro e w18 ⟨rfl,b2⟩;have p5r:=p5r.below b2;have p6r:=p6r.below b2;have p7r:=p7r.below b2;have p8r:=p8r.below b2;have p9r:=p9r.below b2;have b1:=zAA.step b1 b2;clear b2 p3r p4r;go_wp2_with fail
     refine (zEJ p5r p6r tob).mono ?_;rintro e w19 ⟨rfl,b2⟩;have p7r:=p7r.below b2;have p8r:=p8r.below b2;have p9r:=p9r.below b2;have b1:=zAA.step b1 b2;clear b2 p5r p6r;go_wp2_with fail
     refine (zC1 p7r p8r tst).mono ?_;rintro e w20 ⟨rfl,b2⟩;have p9r:=p9r.below b2;have b1:=zAA.step b1 b2;clear b2 p7r p8r;have hdi:=zBB p9r t6;have hds:=zCb p9r t6;generalize dom l6=dm at *;have s6:(dm == dm)=true:=by simp
     clear p9r;go_wp2_with fail
     refine hdi.mono ?_;rintro e w21 ⟨rfl,rfl⟩;go_wp2_with fail
     refine hds.mono ?_;rintro e w22 ⟨rfl,rfl⟩;clear hdi hds;go_wp2_with fail
     go_ret
     exact ⟨rfl,b1⟩
open Go.ChangeShapes Go.WideShapes Go.ChangeAt Go.RowKit Go.Deep
def RByW (_:World) (r:Value) (n:Int):Prop:=r=.int .u8 n∧(Lit.int .u8 n).wf=true
section
variable {H:Type} {enc:TypeId × Value→H} {w:World}
theorem zGs (n:Nat) (r:Value) (x:DataW H × List MemPlace) (h:DataW.trod enc Tryz.prog w 0 (fun _=>true) true n 5 [r]=some x):∃y,RByW w r y:=by
 obtain ⟨y,h,_,hw⟩:=DataW.trod_int Tryz.underlying5 h;simp at h;exact ⟨y,h,hw⟩
theorem zGP {v:Value} {d:DataW H} {p:List MemPlace} (hv:∃a n c,v=.slice a n c) (h:DataW.Trod enc Tryz.prog w 0 (fun _=>true) true 22 v d p):∃n:Nat,RBy Any w v n:=by
 obtain ⟨L,a,cap,rfl,_,hL⟩:=zO1 (R:=RByW) Tryz.underlying22 (by kernel_rfl) hv zGs h;refine ⟨L.length,a,cap,rfl,fun j hj=>?_⟩;rcases hL with rfl | ⟨b,o,ha,_,_,hx⟩
 ·simp at hj
 ·obtain ⟨r,h1,h2,h3⟩:=hx j L[j] (zQf hj);refine ⟨b,o,L[j],ha,trivial,by rw [<-h2]; exact h1,zQe ?_⟩;have e1:IntKind.u8.min=0:=by decide
  have e2:IntKind.u8.max=255:=by decide
  simp only [Lit.wf,e1,e2,Bool.and_eq_true,decide_eq_true_eq] at h3;exact h3
end
end Go.Proofs.YtiohpndgemonjaaGreat
