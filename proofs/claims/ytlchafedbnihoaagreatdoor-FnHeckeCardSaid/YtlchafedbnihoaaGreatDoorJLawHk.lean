/- The Hecke algebra is associative, its trace does not mind the order, with the value 1 it is the group algebra: the walk of the law. Condition: none. -/
import Derived.Test.YtlchafedbnihoaaGreatDoorJGDrH
import Derived.Test.YtlchafedbnihoaaGreatDoorJGFmtH
import Derived.Deep.DeepCutAuto
namespace Go.Proofs.YtlchafedbnihoaaGreatDoor
open Go.RowKit
set_option maxRecDepth 20000
set_option maxHeartbeats 16000000
theorem zED {S S':Nat→Prop} {w:World} {u v:Value} {l:List Int} (h:RI S w u l) (h':RI S' w v l) (hl:l.length≤16777216) :
  Calls Tryz.prog 11 #[u,v] w fun e w'=>e=.returned (.bool true)∧Below w.heap.size w w' :=
 (zFe h h' hl).mono fun e w' ⟨he,hb⟩=>⟨by rw [he,decide_eq_true rfl],hb⟩
theorem zBu {S S':Nat→Prop} {u v:Value} {L:List Trm} {w:World} (h:RT S w u L) (h':RT S' w v L) (hl:zAD L≤16777216) :
  Calls Tryz.prog 8 #[u,v] w fun e w'=>e=.returned (.bool true)∧Below w.heap.size w w' :=
 (zDI h h' hl hl).mono fun e w' ⟨he,hq⟩=>⟨by rw [he,zGD],zAc hq⟩
structure TrS (L:List Trm):Prop where
 t20:zAD L≤1048576
 t24:zAD L≤16777216
 inn:∀t∈L,InI t.2
theorem TrD.s {L:List Trm} (h:TrD L):TrS L:=⟨by have:=h.total; omega,by have:=h.total; omega,h.inn⟩
theorem TrS.of {L:List Trm} (h:zAD L≤4680) (hi:∀t∈L,InI t.2):TrS L:=⟨by omega,by omega,hi⟩
theorem zNJ {c:List (List Int)} {A B:List Trm} (hA:∀t∈A,InI t.2) (hB:∀t∈B,InI t.2):∀t∈mhR c A B,InI t.2:=by
 unfold mhR;cases e:mhO c A B with
 | none=>intro t ht; simp at ht
 | some r=>exact (zCK hA hB e).2.2.1.inn
theorem mhS {c:List (List Int)} {A B:List Trm} (hA:TrS A) (hB:TrS B):TrS (mhR c A B):=TrS.of (by have:=zJu c A B; omega) (zNJ hA.inn hB.inn)
theorem bhS {c:List (List Int)} {l:List Int} (h:l.length≤100):TrS (zAd c l):=TrS.of (by have:=zGm c l; omega) (by
 unfold zAd;split
 ·intro t ht;rw [List.mem_singleton] at ht;subst ht;intro y hy; simp at hy; omega
 ·intro t ht; simp at ht)
theorem adS {c:List (List Int)} {A B:List Trm} (hA:TrS A) (hB:TrS B):TrS (adR c A B):=TrS.of (by have:=zC0 c A B; omega) (zE8 hA.inn hB.inn)
theorem mlS' {c:List (List Int)} {i:Int} {L:List Trm} (h:TrS L):TrS (mlR c i L):=TrS.of (by have:=zD6 c i L; omega) (zFS h.inn)
theorem TrD.tok {L:List Trm} (h:TrD L):TOk L∧L.length≤1048576:=⟨fun x hx=>by
 have h1:=h.wd x hx;exact ⟨fun y hy=>by have:=h.sm x hx y hy; omega,h.inn x hx,by omega,by omega⟩,by have:=h.len; omega⟩
set_option maxRecDepth 100000 in
theorem lawHk {v : Value} {n : Nat} {w : World} (h : RBy Any w v n) (ht0 : Lib.TabIs Tryz.prog w "internal/strconv.uint64pow10" .u64 Lib.pow10Tab) :
  Calls Tryz.prog 3 #[v] w fun e w'=>e=.returned (.bool true)∧Below w.heap.size w w':=by
 obtain ⟨a,cap,rfl⟩:∃a cap,v=.slice a n cap:=by obtain ⟨a,cap,e,_⟩:=h; exact ⟨a,cap,e⟩
 have HT:=zNg (Lib.tabBelow_of_tabIs ht0);clear ht0;by_cases hbig:1048576<n
 ·go_enter Tryz.func3,Tryz.ntmps3
  go_wp2_with fail
  refine zLQ.mono ?_;rintro e w1 ⟨rfl,rfl⟩;rw [decide_eq_true hbig];go_wp2_with fail
  go_ret
  exact ⟨rfl,Below.refl _ _⟩
 ·have hn:n≤1048576:=by omega
  go_enter Tryz.func3,Tryz.ntmps3
  go_wp2_with fail
  refine zLQ.mono ?_;rintro e w1 ⟨rfl,rfl⟩;rw [decide_eq_false hbig];clear hbig;go_wp2_with fail
  refine (zI8 h hn).mono ?_;rintro e w1 ⟨rc,ra,rb,rfl,c,A,B,hD⟩;have mc:=RII.any hD.rm;have ma:=FT.any hD.ra;have mb:=FT.any hD.rb;have b1:=hD.bl;have tc:total c≤16777216:=by have:=zCz hD.m5 hD.row; omega
  have sA:=zNg hD.ta.s;have sB:=zNg hD.tb.s;have HC:=zNg (And.intro hD.m1 hD.m5);clear hD;obtain ⟨ac,cc,rfl⟩:=mc.form;obtain ⟨aa,ca,rfl⟩:=ma.form;obtain ⟨ab,cb,rfl⟩:=mb.form;generalize hnc:c.length=nc at *;generalize hna:A.length=na at *;generalize hnb:B.length=nb at *;have HNC:=zNg hnc;have HNA:=zNg hna;have HNB:=zNg hnb;clear hnc hna hnb;go_wp2_with fail
  refine (zBn mc ma mb tc sA.out.t20 sB.out.t20 sA.out.inn sB.out.inn).mono ?_;rintro e w2 ⟨ry,rfl,fy,b2⟩;have my:=FT.any fy;clear fy;have mc:=mc.below b2;have ma:=ma.below b2;have mb:=mb.below b2;have b1:=zAA.step b1 b2;clear b2;go_wp2_with fail
  refine (zHI mc ma mb tc sA.out.t20 sB.out.t20 sA.out.inn sB.out.inn).mono ?_;rintro e w3 ⟨rz,rfl,fz,b2⟩;have mz:=FT.any fz;clear fz;have mc:=mc.below b2;have ma:=ma.below b2;have mb:=mb.below b2;have my:=my.below b2;have b1:=zAA.step b1 b2;clear b2;have sY:Hid (TrS (mhR c A B)):=zNg (mhS sA.out sB.out);have HTR:Hid (mhB c A B=true→mhB c B A=true→zAW [] (mhR c A B)=zAW [] (mhR c B A)):=zNg (zJH sA.out.inn sB.out.inn);have HAS:Hid (∀l,isWd c l=true→mhB c A B=true→mhB c (mhR c A B) (zAd c l)=true→mhB c B (zAd c l)=true→mhB c A (mhR c B (zAd c l))=true→mhR c (mhR c A B) (zAd c l)=mhR c A (mhR c B (zAd c l))):=zNg (fun l hl h1 h2 h3 h4=>zIx sA.out.inn sB.out.inn hl h1 h2 h3 h4);have HVA:Hid (mhB c A B=true→zA7 1 (zAW [] (mhR c A B))=wrap64 (tot1 c A B)):=zNg (zJI sA.out.inn sB.out.inn);generalize mhB c A B=ok at *
  generalize mhR c A B=Y at *;have s0:(ok != ok)=false:=by simp
  go_wp2_with fail
  refine (zBu my mz sY.out.t24).mono ?_;rintro e w4 ⟨rfl,b2⟩;have mc:=mc.below b2;have ma:=ma.below b2;have mb:=mb.below b2;have my:=my.below b2;have mz:=mz.below b2;have b1:=zAA.step b1 b2;clear b2;clear my;have my:=mz;clear mz;go_wp2_with fail
  refine (zA8 mc ma tc sA.out.t24).mono ?_;rintro e w5 ⟨rfl,b2⟩;have mc:=mc.below b2;have ma:=ma.below b2;have mb:=mb.below b2;have my:=my.below b2;have b1:=zAA.step b1 b2;clear b2;have hp1:=zA9 mc ma tc sA.out.t24;generalize isHk c A=hk at *;have s1:(hk != hk)=false:=by simp
  go_wp2_with fail
  refine (hp1).mono ?_;rintro e w6 ⟨rfl,b2⟩;clear hp1;have mc:=mc.below b2;have ma:=ma.below b2;have mb:=mb.below b2;have my:=my.below b2;have b1:=zAA.step b1 b2;clear b2;go_upto_if 94 with fail
  go_cut [] (fun wx=>Hid (Below w.heap.size w wx))
  case first=>as_aux_lemma =>
   cases ok
   ·have HB:=zNg b1;clear mc ma mb my b1;go_wp2_with fail
    go_meet
    case rel=>exact HB
   ·have HTR2:=zNg (HTR.out rfl);have HAS2:=zNg (fun l hl=>HAS.out l hl rfl);have HVA2:=zNg (HVA.out rfl);clear HTR HAS HVA s0 s1;go_wp2_with fail
    refine (zBn mc mb ma tc sB.out.t20 sA.out.t20 sB.out.inn sA.out.inn).mono ?_;rintro e w7 ⟨rz,rfl,fz,b2⟩;have mz:=FT.any fz;clear fz;have mc:=mc.below b2;have ma:=ma.below b2;have mb:=mb.below b2;have my:=my.below b2;have b1:=zAA.step b1 b2;clear b2;have sZ:Hid (TrS (mhR c B A)):=zNg (mhS sB.out sA.out);generalize mhB c B A=q2 at *;generalize mhR c B A=Z at *;have HCY:Hid ((zAW [] Y).length≤16777216∧(zAW [] Z).length≤16777216):=zNg ⟨by have:=zCQ [] Y; have:=sY.out.t24; omega,by have:=zCQ [] Z; have:=sZ.out.t24; omega⟩;go_upto_region 10 with fail
    go_cut [110] (fun bb wx=>bb=.bool false∧Hid (Below w7.heap.size w7 wx))
    case first=>as_aux_lemma =>
     cases q2
     ·clear mc ma mb my mz b1;go_wp2_with fail
      go_meet
      case rel=>exact ⟨rfl,zNg (Below.refl _ _)⟩
     ·have HE:=zNg (HTR2.out rfl);clear HTR2 b1;have b1:=Below.refl w7.heap.size w7;clear mc ma mb;go_wp2_with fail
      refine (zCa my sY.out.t24).mono ?_;rintro e w8 ⟨r1,rfl,f1,b2⟩;have g1:=f1.any;clear f1;have my:=my.below b2;have mz:=mz.below b2;have b1:=zAA.step b1 b2;clear b2;go_wp2_with fail
      refine (zCa mz sZ.out.t24).mono ?_;rintro e w9 ⟨r2,rfl,f2,b2⟩;have g2:=f2.any;clear f2;rw [<-HE.out] at g2;have my:=my.below b2;have mz:=mz.below b2;have g1:=g1.below b2;have b1:=zAA.step b1 b2;clear b2;go_wp2_with fail
      refine (zED g1 g2 HCY.out.1).mono ?_;rintro e w10 ⟨rfl,b2⟩;have my:=my.below b2;have mz:=mz.below b2;have g1:=g1.below b2;have g2:=g2.below b2;have b1:=zAA.step b1 b2;clear b2;have HB:=zNg b1;clear my mz g1 g2 b1;go_wp2_with fail
      go_meet
      case rel=>exact ⟨rfl,HB⟩
    case rest=>as_aux_lemma =>
     obtain ⟨rfl,HB⟩:=hcut;have b2:=HB.out;clear HB;clear mz;have mc:=mc.below b2;have ma:=ma.below b2;have mb:=mb.below b2;have my:=my.below b2;have b1:=zAA.step b1 b2;clear b2;clear HTR2 sZ HCY;have HC:=HC;go_wp2_with fail
     refine (zJr (i:=16) (k:=2) (h.below b1) hn (by have:=HC.out; omega) (by omega) (by omega)).mono ?_;rintro e w11 ⟨rl,rfl,l,fl,hl,-,b2⟩;have ml:=fl.any;clear fl;have mc:=mc.below b2;have ma:=ma.below b2;have mb:=mb.below b2;have my:=my.below b2;have b1:=zAA.step b1 b2;clear b2;have tl:l.length≤16777216:=by omega
     go_wp2_with fail
     refine (zDG mc ml tc tl).mono ?_;rintro e w12 ⟨ru,rfl,fu,b2⟩;have mu:=FT.any fu;clear fu;have mc:=mc.below b2;have ma:=ma.below b2;have mb:=mb.below b2;have my:=my.below b2;have ml:=ml.below b2;have b1:=zAA.step b1 b2;clear b2;have sU:Hid (TrS (zAd c l)):=zNg (bhS (by omega));have HAS3:=zNg (HAS2.out l);clear HAS2 tl hl;clear ml;generalize isWd c l=o1 at *;generalize zAd c l=U at *;go_wp2_with fail
     refine (zBn mc my mu tc sY.out.t20 sU.out.t20 sY.out.inn sU.out.inn).mono ?_;rintro e w13 ⟨rp,rfl,fp,b2⟩;have mp:=FT.any fp;clear fp;have mc:=mc.below b2;have ma:=ma.below b2;have mb:=mb.below b2;have my:=my.below b2;have mu:=mu.below b2;have b1:=zAA.step b1 b2;clear b2;have sP:Hid (TrS (mhR c Y U)):=zNg (mhS sY.out sU.out);generalize mhB c Y U=o2 at *;generalize mhR c Y U=P at *;go_wp2_with fail
     refine (zBn mc mb mu tc sB.out.t20 sU.out.t20 sB.out.inn sU.out.inn).mono ?_;rintro e w14 ⟨rq,rfl,fq,b2⟩;have mq:=FT.any fq;clear fq;have mc:=mc.below b2;have ma:=ma.below b2;have mb:=mb.below b2;have my:=my.below b2;have mu:=mu.below b2;have mp:=mp.below b2;have b1:=zAA.step b1 b2;clear b2;have sQ:Hid (TrS (mhR c B U)):=zNg (mhS sB.out sU.out);generalize mhB c B U=o3 at *;generalize mhR c B U=Q at *;clear mu;go_wp2_with fail
     refine (zBn mc ma mq tc sA.out.t20 sQ.out.t20 sA.out.inn sQ.out.inn).mono ?_;rintro e w15 ⟨rr,rfl,fr,b2⟩;have mr:=FT.any fr;clear fr;have mc:=mc.below b2;have ma:=ma.below b2;have mb:=mb.below b2;have my:=my.below b2;have mp:=mp.below b2;have mq:=mq.below b2;have b1:=zAA.step b1 b2;clear b2;generalize mhB c A Q=o4 at *;generalize mhR c A Q=R at *;clear mq;go_upto_region 16 with fail
     go_cut [155] (fun bb wx=>bb=.bool false∧Hid (Below w15.heap.size w15 wx))
     case first=>as_aux_lemma =>
      have b1:=Below.refl w15.heap.size w15;clear mc ma mb my;cases o1
      ·clear mp mr b1;go_wp2_with fail
       go_meet
       case rel=>exact ⟨rfl,zNg (Below.refl _ _)⟩
      cases o2
      ·clear mp mr b1;go_wp2_with fail
       go_meet
       case rel=>exact ⟨rfl,zNg (Below.refl _ _)⟩
      cases o3
      ·clear mp mr b1;go_wp2_with fail
       go_meet
       case rel=>exact ⟨rfl,zNg (Below.refl _ _)⟩
      cases o4
      ·clear mp mr b1;go_wp2_with fail
       go_meet
       case rel=>exact ⟨rfl,zNg (Below.refl _ _)⟩
      have HE:=zNg (HAS3.out rfl rfl rfl rfl);rw [<-HE.out] at mr;go_wp2_with fail
      refine (zBu mp mr sP.out.t24).mono ?_;rintro e w16 ⟨rfl,b2⟩;have mp:=mp.below b2;have mr:=mr.below b2;have b1:=zAA.step b1 b2;clear b2;have HB:=zNg b1;clear mp mr b1;go_wp2_with fail
      go_meet
      case rel=>exact ⟨rfl,HB⟩
     case rest=>as_aux_lemma =>
      obtain ⟨rfl,HB⟩:=hcut;have b2:=HB.out;clear HB;clear mp mr;have mc:=mc.below b2;have ma:=ma.below b2;have mb:=mb.below b2;have my:=my.below b2;have b1:=zAA.step b1 b2;clear b2;clear HAS3 sU sP sQ;go_wp2_with fail
      have hna:na≤16777216:=by have:=sA.out.t24; have:=HNA.out; unfold zAD at *; omega
      have hnb:nb≤16777216:=by have:=sB.out.t24; have:=HNB.out; unfold zAD at *; omega
      have HM0:Hid ((0:Int)=wrap64 (tot1 c (A.take 0) B)):=zNg (by simp [tot1,wrap64]);go_loopw [20,21] (fun mm ii wr=>∃(i:Nat) (m:Int),mm=.int .i64 m∧i≤na∧ii=.int .i64 i∧Hid (m=wrap64 (tot1 c (A.take i) B))∧Below wc.heap.size wc wr) (fun _ ii _=>na-(intOf ii).toNat)
      case atStart=>exact ⟨0,0,rfl,Nat.zero_le _,rfl,HM0,Below.refl _ _⟩
      case round=>as_aux_lemma =>
       obtain ⟨i,m,rfl,hi,rfl,HM,hb⟩:=hrel;by_cases hlo:i<na
       ·have i1:(i:Int)<(na:Int):=by omega
        obtain ⟨ba,oa,r1,r2,t,rfl,k1,k2,⟨q1,q2⟩,hx⟩:=(ma.below hb).at hlo;have HX:=zNg hx.out;have HTM:=zNg (zNi hx.out);have HM1:Hid (m=wrap64 (tot1 c (A.take i) B+row1 c (B.take 0) t)):=zNg (by rw [HM.out]; simp [row1]);have HEND:Hid (∀m',m'=wrap64 (tot1 c (A.take i) B+row1 c (B.take nb) t)→m'=wrap64 (tot1 c (A.take (i+1)) B)):=zNg (fun m' e=>by rw [e,zKi HX.out,List.take_of_length_le (show B.length≤nb by rw [HNB.out]; exact zNl _)]);have HPL:Hid (t.1.length≤16777216∧t.2.length≤16777216):=zNg (by have:=zEI HTM.out; have:=sA.out.t24; omega);have l1:=zNk wr _ k1;have l2:=zNk wr _ k2;clear hx;go_wp2_with fail
        go_loopw [20,22] (fun mm kk wi=>∃(k:Nat) (m:Int),mm=.int .i64 m∧k≤nb∧kk=.int .i64 k∧Hid (m=wrap64 (tot1 c (A.take i) B+row1 c (B.take k) t))∧Below wr.heap.size wr wi) (fun _ kk _=>nb-(intOf kk).toNat)
        case atStart=>exact ⟨0,m,rfl,Nat.zero_le _,rfl,HM1,Below.refl _ _⟩
        case round=>as_aux_lemma =>
         obtain ⟨k,m,rfl,hk,rfl,HMk,hbi⟩:=hrel;have hb2:=zAA.step hb hbi;by_cases hlt:k<nb
         ·have i2:(k:Int)<(nb:Int):=by omega
          obtain ⟨bb,ob,r3,r4,s,rfl,k3,k4,⟨q3,q4⟩,hy⟩:=(mb.below hb2).at hlt;have HST:=zNg (zKL (c:=c) (t:=t) hy.out);have HSL:Hid (s.1.length≤16777216∧s.2.length≤16777216):=zNg (by have:=zEI (zNi hy.out); have:=sB.out.t24; omega);have k1:=(hbi.cell (p:=⟨ba,oa+i*2,none⟩) l1).trans k1;have k2:=(hbi.cell (p:=⟨ba,oa+i*2+1,none⟩) l2).trans k2;have l3:=zNk wr _ k3;have l4:=zNk wr _ k4;have l1:=zNk wr _ k1;have l2:=zNk wr _ k2;have q1:=q1.below hbi;have q2:=q2.below hbi;have mci:=mc.below hb2;have HNF:Hid ((zAi c t.1.reverse).length≤16777216):=zNg (by have h1:=zDh c t.1.reverse; rw [List.length_reverse] at h1; have:=HPL.out.1; omega);obtain ⟨a1,c1,rfl⟩:=q1.form;obtain ⟨a3,c3,rfl⟩:=q3.form;clear hy;generalize t.1.length=n1 at q1 k1;generalize s.1.length=n3 at q3 k3;have HQ1:=zNg q1;have HQ3:=zNg q3
          clear q1 q3;have kd:wr.drew.cell? ⟨ba,oa+i*2,none⟩=some (.slice a1 n1 c1)∧wr.drew.cell? ⟨bb,ob+k*2,none⟩=some (.slice a3 n3 c3):=⟨k1,k3⟩;go_wp2_with fail
          go_region_held3 (fun w'=>w'.cell? ⟨ba,oa+i*2,none⟩=some (.slice a1 n1 c1)∧w'.cell? ⟨bb,ob+k*2,none⟩=some (.slice a3 n3 c3)) (first | go_keep | exact p2 | exact p1 | exact kd) (first
           | (go_at_call 15; refine (zJn mci.drew (HQ1.out).drew tc HPL.out.1).mono ?_; rintro e w8 ⟨r8,rfl,f8,b8⟩; have g8:=f8.any; have q3b:=(HQ3.out).drew.below b8; have p1:=And.intro ((b8.cell (p:=⟨ba,oa+i*2,none⟩) l1).trans k1) ((b8.cell (p:=⟨bb,ob+k*2,none⟩) l3).trans k3))
           | (go_at_call 11; refine (zFe g8 q3b HNF.out).mono ?_; rintro e w9 ⟨rfl,b9⟩; have p2:=And.intro ((b9.cell (p:=⟨ba,oa+i*2,none⟩) (Nat.lt_of_lt_of_le l1 b8.size)).trans p1.1) ((b9.cell (p:=⟨bb,ob+k*2,none⟩) (Nat.lt_of_lt_of_le l3 b8.size)).trans p1.2)))
          all_goals as_aux_lemma =>
           have b09:Below wr.heap.size wr w9:=zAA.step (zAA.step ((Below.refl _ wr).drew) b8) b9;have hbn:=zAA.step hbi b09;clear f8 g8 q3b b8 b9 p1 p2 kd;by_cases hsame:zAi c t.1.reverse=s.1
           ·rw [decide_eq_true hsame];have HMN:Hid (∀m2,m2=wrap64 (m+wrap64 (zA7 1 t.2*zA7 1 s.2))→m2=wrap64 (tot1 c (A.take i) B+row1 c (B.take (k+1)) t)):=zNg (fun m2 e2=>by
             rw [e2,zC5,zC5,zKZ HMk.out (p:=pr1 c t s) (by unfold pr1; rw [if_pos hsame]),HST.out,Int.add_assoc])
            have j1:=(b09.cell l1).trans k1;have j2:=(b09.cell l2).trans k2;have j3:=(b09.cell l3).trans k3;have j4:=(b09.cell l4).trans k4;have q2:=q2.below b09;have q4:=q4.below b09;clear hsame;go_wp2_with fail
            have HE1:Hid (∀x,Calls Tryz.prog 16 #[r2,.int .i64 1] (w9.drewN x) fun e w'=>e=.returned (.int .i64 (zA7 1 t.2))∧w'=w9.drewN x):=zNg fun x=>(zEk 1 (q2.drewN x) HPL.out.2).mono fun _ _ h=>⟨h.1,h.2.symm⟩;have HE2:Hid (∀x,Calls Tryz.prog 16 #[r4,.int .i64 1] (w9.drewN x) fun e w'=>e=.returned (.int .i64 (zA7 1 s.2))∧w'=w9.drewN x):=zNg fun x=>(zEk 1 (q4.drewN x) HSL.out.2).mono fun _ _ h=>⟨h.1,h.2.symm⟩;go_quiet (first
             | (go_at_call_of 16 (r2); exact Calls.quiet_of_same (HE1.out _))
             | (go_at_call_of 16 (r4); exact Calls.quiet_of_same (HE2.out _)))
            have hbd:=below_drewN hbn nq;clear q2 q4 j1 j2 j3 j4;go_wp2_with fail
            go_roundw
            case rel=>exact ⟨k+1,_,rfl,by omega,by go_num,zNg (HMN.out _ rfl),hbd⟩
            case measure=>simp [intOf]; omega
           ·rw [decide_eq_false hsame];have HMN:Hid (m=wrap64 (tot1 c (A.take i) B+row1 c (B.take (k+1)) t)):=zNg (by
             rw [HST.out,show pr1 c t s=0 by unfold pr1; rw [if_neg hsame],Int.add_zero]; exact HMk.out)
            clear hsame;go_wp2_with fail
            go_roundw
            case rel=>exact ⟨k+1,m,rfl,by omega,by go_num,HMN,hbn⟩
            case measure=>simp [intOf]; omega
         ·as_aux_lemma =>
           have i2:¬(k:Int)<(nb:Int):=by omega
           have hkn:k=nb:=by omega
           have HMF:=zNg (HEND.out m (by rw [<-hkn]; exact HMk.out));clear hkn;go_wp2_with fail
           go_roundw
           case rel=>exact ⟨i+1,m,rfl,by omega,by go_num,HMF,hb2⟩
           case measure=>simp [intOf]; omega
       ·as_aux_lemma =>
         have i1:¬(i:Int)<(na:Int):=fun hh=>hlo (Int.ofNat_lt.1 hh);have hin:i=na:=Nat.le_antisymm hi (Nat.le_of_not_lt hlo);have HMF:Hid (m=zA7 1 (zAW [] Y)):=zNg (by rw [HVA2.out,HM.out,hin,List.take_of_length_le (show A.length≤na by rw [HNA.out]; exact zNl _)]);have my:=my.below hb;have b1:=zAA.step b1 hb;have HCL:Hid ((zAW [] Y).length≤16777216):=zNg (by have:=zCQ [] Y; have:=sY.out.t24; omega);clear hin hlo hb ma mb mc;go_wp2_with fail
         refine (zCa my sY.out.t24).mono ?_;rintro e w20 ⟨r20,rfl,f20,b20⟩;go_wp2_with fail
         refine (zEk 1 f20.reads HCL.out).mono ?_;rintro e w21 ⟨rfl,rfl⟩;generalize zA7 1 (zAW [] Y)=ev at *;obtain rfl:m=ev:=HMF.out;have s9:(m != m)=false:=by simp
         have HB:=zNg (zAA.step b1 b20);clear my f20 b20 b1 HMF HCL HM HVA2;go_wp2_with fail
         go_meet
         case rel=>exact HB
  case rest=>as_aux_lemma =>
   have b1:=hcut.out;clear hcut sA sB HC HNC HNA HNB HTR HAS HVA sY s0 s1 mc ma mb my;go_wp2_with fail
   refine (zIv (h.below b1) hn).mono ?_;rintro e w17 ⟨r1,r2,r3,rfl,c1,A1,B1,hD⟩;have m1:=RII.any hD.rm;have m2:=FT.any hD.ra;have m3:=FT.any hD.rb;have b2:=hD.bl;have t1:total c1≤16777216:=by have:=zCz hD.m5 hD.row; omega
   have sA:=zNg hD.ta.s;have sB:=zNg hD.tb.s;clear hD;have b1:=zAA.step b1 b2;clear b2;go_wp2_with fail
   refine (zDu m1 m2 m3 t1 sA.out.t20 sB.out.t20 sA.out.inn sB.out.inn).mono ?_;rintro e w18 ⟨r4,rfl,f4,b2⟩;have p1:=FT.any f4;clear f4;have m1:=m1.below b2;have m2:=m2.below b2;have m3:=m3.below b2;have b1:=zAA.step b1 b2;clear b2;go_wp2_with fail
   refine (zDv m1 m2 m3 t1 sA.out.t20 sB.out.t20 sA.out.inn sB.out.inn).mono ?_;rintro e w19 ⟨r5,rfl,f5,b2⟩;have p2:=FT.any f5;clear f5;have m1:=m1.below b2;have m2:=m2.below b2;have m3:=m3.below b2;have p1:=p1.below b2;have b1:=zAA.step b1 b2;clear b2;clear m1 m2 m3;have z1:zAD (adR c1 A1 B1)≤16777216:=(adS sA.out sB.out).t24;clear sA sB t1;generalize adB c1 A1 B1=q1 at *;generalize adR c1 A1 B1=P1 at *;have s1:(q1 == q1)=true:=by simp
   go_wp2_with fail
   refine (zHe (h.below b1) hn).mono ?_;rintro e w20 ⟨r1,r2,r3,rfl,c1,L1,l1,hD⟩;have m1:=hD.rm;have m2:=hD.rt;have m3:=hD.rp;have b2:=hD.bl;have t1:total c1≤16777216:=by have:=hD.tot; omega
   have t3:l1.length≤1048576:=by have:=hD.len; omega
   have sA:=zNg hD.tr.s;clear hD;have p1:=p1.below b2;have p2:=p2.below b2;have b1:=zAA.step b1 b2;clear b2;go_wp2_with fail
   refine (zDP m1 m2 m3 t1 sA.out.t20 t3).mono ?_;rintro e w21 ⟨r4,rfl,f4,b2⟩;have p3:=FT.any f4;clear f4;have p1:=p1.below b2;have p2:=p2.below b2;have m1:=m1.below b2;have m2:=m2.below b2;have m3:=m3.below b2;have b1:=zAA.step b1 b2;clear b2;go_wp2_with fail
   refine (zDQ m1 m2 m3 t1 sA.out.t20 t3).mono ?_;rintro e w22 ⟨r5,rfl,f5,b2⟩;have p4:=FT.any f5;clear f5;have p1:=p1.below b2;have p2:=p2.below b2;have m1:=m1.below b2;have m2:=m2.below b2;have m3:=m3.below b2;have p3:=p3.below b2;have b1:=zAA.step b1 b2;clear b2;clear m1 m2 m3;have z2:zAD (scR c1 l1 L1)≤16777216:=by have:=zEE c1 l1 L1; omega
   clear sA t1 t3;generalize scB c1 l1 L1=q2 at *;generalize scR c1 l1 L1=P2 at *;have s2:(q2 == q2)=true:=by simp
   go_wp2_with fail
   refine (zHu (h.below b1) hn).mono ?_;rintro e w23 ⟨r1,li,r2,rfl,c1,L1,hD⟩;have m1:=RII.any hD.rm;have m2:=FT.any hD.rt;have b2:=hD.bl;have t1:total c1≤16777216:=by have:=zCz hD.m5 hD.row; omega
   have sA:=zNg hD.tr.s;clear hD;have p1:=p1.below b2;have p2:=p2.below b2;have p3:=p3.below b2;have p4:=p4.below b2;have b1:=zAA.step b1 b2;clear b2;go_wp2_with fail
   refine (zDq (i:=li) m1 m2 t1 sA.out.t20 sA.out.inn).mono ?_;rintro e w24 ⟨r4,rfl,f4,b2⟩;have p5:=FT.any f4;clear f4;have p1:=p1.below b2;have p2:=p2.below b2;have p3:=p3.below b2;have p4:=p4.below b2;have m1:=m1.below b2;have m2:=m2.below b2;have b1:=zAA.step b1 b2;clear b2;go_wp2_with fail
   refine (zDr (i:=li) m1 m2 t1 sA.out.t20 sA.out.inn).mono ?_;rintro e w25 ⟨r5,rfl,f5,b2⟩;have p6:=FT.any f5;clear f5;have p1:=p1.below b2;have p2:=p2.below b2;have p3:=p3.below b2;have p4:=p4.below b2;have m1:=m1.below b2;have m2:=m2.below b2;have p5:=p5.below b2;have b1:=zAA.step b1 b2;clear b2;clear m1 m2;have z3:zAD (mlR c1 li L1)≤16777216:=(mlS' sA.out).t24;clear sA t1;generalize mlB c1 li L1=q3 at *;generalize mlR c1 li L1=P3 at *;have s3:(q3 == q3)=true:=by simp
   go_wp2_with fail
   refine (zGn (h.below b1) hn).mono ?_;rintro e w26 ⟨r1,r2,rfl,c1,l1,hD⟩;have m1:=RII.any hD.rm;have m2:=RI.any hD.rl;have b2:=hD.bl;have t1:total c1≤16777216:=by have:=zCz hD.m5 hD.row; omega
   have t2:l1.length≤100:=by have:=hD.len; omega
   have t3:l1.length≤16777216:=by omega
   clear hD;have p1:=p1.below b2;have p2:=p2.below b2;have p3:=p3.below b2;have p4:=p4.below b2;have p5:=p5.below b2;have p6:=p6.below b2;have b1:=zAA.step b1 b2;clear b2;go_wp2_with fail
   refine (zFl m1 m2 t1 t3).mono ?_;rintro e w27 ⟨r4,rfl,f4,b2⟩;have p7:=FT.any f4;clear f4;have p1:=p1.below b2;have p2:=p2.below b2;have p3:=p3.below b2;have p4:=p4.below b2;have p5:=p5.below b2;have p6:=p6.below b2;have m1:=m1.below b2;have m2:=m2.below b2;have b1:=zAA.step b1 b2;clear b2;go_wp2_with fail
   refine (zDG m1 m2 t1 t3).mono ?_;rintro e w28 ⟨r5,rfl,f5,b2⟩;have p8:=FT.any f5;clear f5;have p1:=p1.below b2;have p2:=p2.below b2;have p3:=p3.below b2;have p4:=p4.below b2;have p5:=p5.below b2;have p6:=p6.below b2;have m1:=m1.below b2;have m2:=m2.below b2;have p7:=p7.below b2;have b1:=zAA.step b1 b2;clear b2;clear m1 m2;have z4:zAD (zAd c1 l1)≤16777216:=(bhS t2).t24;clear t1 t2 t3;generalize isWd c1 l1=q4 at *;generalize zAd c1 l1=P4 at *;have s4:(q4 == q4)=true:=by simp
   go_wp2_with fail
   refine (zGt (h.below b1) hn).mono ?_;rintro e w29 ⟨r1,r2,rfl,A5,B5,x1,x2,d1,d2,b2⟩;have sA:=zNg d1.s;have sB:=zNg d2.s;clear d1 d2;have p1:=p1.below b2;have p2:=p2.below b2;have p3:=p3.below b2;have p4:=p4.below b2;have p5:=p5.below b2;have p6:=p6.below b2;have p7:=p7.below b2;have p8:=p8.below b2;have b1:=zAA.step b1 b2;clear b2;go_wp2_with fail
   refine (zGa (h.below b1) hn).mono ?_;rintro e w30 ⟨r1,r2,rfl,L6,l6,x3,x4,d1,hl6,b2⟩;have sC:=zNg d1.s;have hok6:=zNg d1.tok;clear d1;have p1:=p1.below b2;have p2:=p2.below b2;have p3:=p3.below b2;have p4:=p4.below b2;have p5:=p5.below b2;have p6:=p6.below b2;have p7:=p7.below b2;have p8:=p8.below b2;have x1:=x1.below b2;have x2:=x2.below b2;have b1:=zAA.step b1 b2;clear b2;have tl6:l6.length≤16777216:=by omega
   clear hl6;go_wp2_with fail
   refine (zBu p1 p2 z1).mono ?_;rintro e w31 ⟨rfl,b2⟩;clear p1 p2;have p3:=p3.below b2;have p4:=p4.below b2;have p5:=p5.below b2;have p6:=p6.below b2;have p7:=p7.below b2;have p8:=p8.below b2;have x1:=x1.below b2;have x2:=x2.below b2;have x3:=x3.below b2;have x4:=x4.below b2;have b1:=zAA.step b1 b2;clear b2;go_wp2_with fail
   refine (zBu p3 p4 z2).mono ?_;rintro e w32 ⟨rfl,b2⟩;clear p3 p4;have p5:=p5.below b2;have p6:=p6.below b2;have p7:=p7.below b2;have p8:=p8.below b2;have x1:=x1.below b2;have x2:=x2.below b2;have x3:=x3.below b2;have x4:=x4.below b2;have b1:=zAA.step b1 b2;clear b2;go_wp2_with fail
   refine (zBu p5 p6 z3).mono ?_;rintro e w33 ⟨rfl,b2⟩;clear p5 p6;have p7:=p7.below b2;have p8:=p8.below b2;have x1:=x1.below b2;have x2:=x2.below b2;have x3:=x3.below b2;have x4:=x4.below b2;have b1:=zAA.step b1 b2;clear b2;go_wp2_with fail
   refine (zBu p7 p8 z4).mono ?_;rintro e w34 ⟨rfl,b2⟩;clear p7 p8;have x1:=x1.below b2;have x2:=x2.below b2;have x3:=x3.below b2;have x4:=x4.below b2;have b1:=zAA.step b1 b2;clear b2;go_wp2_with fail
   refine (zFq x1 x2 sA.out.t24 sB.out.t24).mono ?_;rintro e w35 ⟨rfl,b2⟩;have x1:=x1.below b2;have x2:=x2.below b2;have x3:=x3.below b2;have x4:=x4.below b2;have b1:=zAA.step b1 b2;clear b2;have hp1:=zDI x1 x2 sA.out.t24 sB.out.t24;generalize eqHk A5 B5=q5 at *;have s5:(q5 == q5)=true:=by simp
   clear x1 x2;go_wp2_with fail
   refine (hp1).mono ?_;rintro e w36 ⟨rfl,hq⟩;have b2:=zAc hq;clear hq;clear hp1;have x3:=x3.below b2;have x4:=x4.below b2;have b1:=zAA.step b1 b2;clear b2;go_wp2_with fail
   refine (zCi x3 x4 sC.out.t24 tl6).mono ?_;rintro e w37 ⟨r8,rfl,f8,b2⟩;have y1:=f8.any;clear f8;have x3:=x3.below b2;have x4:=x4.below b2;have b1:=zAA.step b1 b2;clear b2;go_wp2_with fail
   refine (zCj x3 x4 sC.out.t24 tl6).mono ?_;rintro e w38 ⟨r9,rfl,f9,b2⟩;have y2:=f9.any;clear f9;have x3:=x3.below b2;have x4:=x4.below b2;have y1:=y1.below b2;have b1:=zAA.step b1 b2;clear b2;have z6:(zAW l6 L6).length≤16777216:=by have:=zCQ l6 L6; have:=sC.out.t24; omega
   clear x4;go_wp2_with fail
   refine (zED y1 y2 z6).mono ?_;rintro e w39 ⟨rfl,b2⟩;clear y1 y2;have x3:=x3.below b2;have b1:=zAA.step b1 b2;clear b2;have hf1:=zEn x3 sC.out.t24 hok6.out (HT.out.on b1) b1.size;go_wp2_with fail
   refine (hf1).mono ?_;rintro e w40 ⟨rfl,b2⟩;clear hf1;have x3:=x3.below b2;have b1:=zAA.step b1 b2;clear b2;have hf2:=zEo x3 sC.out.t24 hok6.out;generalize bs (zBe L6)=q6 at *;have s6:(q6 == q6)=true:=by first | (simp; done) | exact beq_self_eq_true q6 | (show (q6.data == q6.data)=true; simp) | (cases q6; simp [BEq.beq])
   go_wp2_with fail
   refine (hf2).mono ?_;rintro e w41 ⟨rfl,b2⟩;clear hf2;have x3:=x3.below b2;have b1:=zAA.step b1 b2;clear b2;go_wp2_with fail
   refine (zCa x3 sC.out.t24).mono ?_;rintro e w42 ⟨r8,rfl,f8,b2⟩;have y1:=f8.any;clear f8;have x3:=x3.below b2;have b1:=zAA.step b1 b2;clear b2;go_wp2_with fail
   refine (zHx x3 sC.out.t24).mono ?_;rintro e w43 ⟨r9,rfl,f9,b2⟩;have y2:=f9.any;clear f9;have x3:=x3.below b2;have y1:=y1.below b2;have b1:=zAA.step b1 b2;clear b2;have z7:(zAW [] L6).length≤16777216:=by have:=zCQ [] L6; have:=sC.out.t24; omega
   clear x3;go_wp2_with fail
   refine (zED y1 y2 z7).mono ?_;rintro e w44 ⟨rfl,b2⟩;clear y1 y2;have b1:=zAA.step b1 b2;clear b2;go_wp2_with fail
   go_ret
   exact ⟨rfl,b1⟩
end Go.Proofs.YtlchafedbnihoaaGreatDoor
