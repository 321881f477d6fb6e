/- R has the difference of lengths as its degree, vanishes only outside the order, inverts the basis: the walk of the law. Condition: none. -/
import Derived.Test.YtlchafedbnihoaaGreatJGRpD
import Derived.Test.YtlchafedbnihoaaGreatJGRTi
import Derived.Deep.DeepCutAuto
namespace Go.Proofs.YtlchafedbnihoaaGreat
open Go.RowKit
set_option maxRecDepth 20000
set_option maxHeartbeats 8000000
theorem zDP {S S':Nat→Prop} {w:World} {u v:Value} {l:List Int} (h:RI S w u l) (h':RI S' w v l) (hl:l.length≤16777216) :
  Calls Tryz.prog 8 #[u,v] w fun e w'=>e=.returned (.bool true)∧Below w.heap.size w w' :=
 (zGk h h' hl).mono fun e w' ⟨he,hb⟩=>⟨by rw [he,decide_eq_true rfl],hb⟩
theorem zKj {S S':Nat→Prop} {w:World} {u v:Value} {l:List (List Int)} (h:RII S w u l) (h':RII S' w v l) (hl:total l≤16777216) :
  Calls Tryz.prog 29 #[u,v] w fun e w'=>e=.returned (.bool true)∧Below w.heap.size w w' :=
 (zJM h h' hl).mono fun e w' ⟨he,hb⟩=>⟨by rw [he,decide_eq_true rfl],hb⟩
theorem zKU {S S':Nat→Prop} {u v:Value} {L:List Trm} {w:World} (h:RT S w u L) (h':RT S' w v L) (hl:zAI L≤16777216) :
  Calls Tryz.prog 19 #[u,v] w fun e w'=>e=.returned (.bool true)∧Below w.heap.size w w' :=
 (zEB h h' hl hl).mono fun e w' ⟨he,hq⟩=>⟨by rw [he,zEv],zAO hq⟩
structure RpQ (c:List (List Int)) (u v q:List Int) (nu nv:Nat):Prop where
 wu:isWd c u=true
 wv:isWd c v=true
 bl:decide (0<q.length)=blB c u v
 deg:0<q.length→nu≤nv∧q.length+nu=nv+1∧num q (nv-nu)=1
 mir:0<q.length→trim q.reverse=trim (mulP q [if ((nv:Int)-nu) % 2=0 then 1 else -1])
 rev:rpOk c u.reverse v.reverse=true∧rp c u.reverse v.reverse=q
 le:nu≤15∧nv≤10∧q.length≤11
 trd:trim q=q
theorem rpq {c:List (List Int)} {u v:List Int} (h:rpOk c u v=true):RpQ c u v (rp c u v) (zAB c u).length (zAB c v).length:=by
 have E:=zEj h;have D:=zL5 h;have h':=h;unfold rpOk at h';simp only [Bool.and_eq_true,decide_eq_true_eq] at h';refine ⟨h'.1.1,h'.1.2,?_,fun h0=>?_,zP1 h,zP2 h,⟨E.le,E.lf,zFa c u v⟩,zDH (zDy c u v).2.1⟩
 ·rw [D.1]; unfold blB; rw [h'.1.1,h'.1.2]; rfl
 ·exact D.2 h0
theorem zMm {d:List (List Int)} {w:List Int} (h:ibB d w=true):isWd d w=true∧(zAB d w).length≤10:=by
 unfold ibB rtOk at h;simp only [Bool.and_eq_true,decide_eq_true_eq] at h;exact ⟨zB8 h.1.1,h.1.2⟩
theorem zPh {d:List (List Int)} {w:List Int} (h:ibB d w=true):∀t∈ibR d w,InI t.2:=by
 have h':=h;unfold ibB at h;simp only [Bool.and_eq_true] at h;have e1:ibR d w=puts (ibT d w (lwR d w)):=by unfold ibR gd; rw [if_pos h.1,if_pos h.2]
 have hl:lwOk d w=true:=by have:=h.1; unfold rtOk at this; simp only [Bool.and_eq_true] at this; exact this.1
 rw [e1];exact (zBD _ _ rfl fun t ht=>(zGM (c:=d) (l:=w) (zB9 hl).2 t ht).2.2).1.inn
theorem zMU (c:List (List Int)) (l:List Int):∀t∈zAs c l,InI t.2:=by
 unfold zAs;split
 ·intro t ht;rw [List.mem_singleton] at ht;subst ht;intro y hy; simp at hy; omega
 ·intro t ht; simp at ht
set_option maxRecDepth 100000 in
theorem lawRp {v:Value} {n:Nat} {w:World} (h:RBy Any w v n) :
  Calls Tryz.prog 3 #[v] w fun e w'=>e=.returned (.bool true)∧Below w.heap.size w w':=by
 obtain ⟨a,cap,rfl⟩:∃a cap,v=.slice a n cap:=by obtain ⟨a,cap,e,_⟩:=h; exact ⟨a,cap,e⟩
 by_cases hbig:1048576<n
 ·go_enter Tryz.func3,Tryz.ntmps3
  go_wp2_with fail
  refine zNW.mono ?_;rintro e w1 ⟨rfl,rfl⟩;rw [decide_eq_true hbig];go_wp2_with fail
  go_ret
  exact ⟨rfl,Below.refl _ _⟩
 ·have hn:n≤1048576:=by omega
  go_enter Tryz.func3,Tryz.ntmps3
  go_wp2_with fail
  refine zNW.mono ?_;rintro e w1 ⟨rfl,rfl⟩;rw [decide_eq_false hbig];clear hbig;go_wp2_with fail
  refine (zHp h hn).mono ?_;rintro e w1 ⟨rc,ru,rv,rfl,c,u,q0,hD⟩;have mc:=hD.rm;have mu:=hD.ru;have mv:=hD.rv;have b1:=hD.bl;have tc:=hD.tot;have tu:u.length≤16777216:=by have:=hD.lu; omega
  have tv:q0.length≤16777216:=by have:=hD.lv; omega
  clear hD;go_wp2_with fail
  refine (zBP mc mu mv tc tu tv).mono ?_;rintro e w2 ⟨rp1,rfl,f1,b2⟩;have mp:=f1.any;clear f1;have mc:=mc.below b2;have mu:=mu.below b2;have mv:=mv.below b2;have b1:=zAA.step b1 b2;clear b2;go_wp2_with fail
  refine (zCC mc mu mv tc tu tv).mono ?_;rintro e w3 ⟨rq1,rfl,f2,b2⟩;have mq:=f2.any;clear f2;have mc:=mc.below b2;have mu:=mu.below b2;have mv:=mv.below b2;have mp:=mp.below b2;have b1:=zAA.step b1 b2;clear b2;have HF:Hid (rpOk c u q0=true→RpQ c u q0 (rp c u q0) (zAB c u).length (zAB c q0).length):=zQY rpq;have tq:(rp c u q0).length≤16777216:=by have:=zFa c u q0; omega
  generalize rpOk c u q0=ok at *;generalize rp c u q0=q at *;have s0:(ok != ok)=false:=by simp
  obtain ⟨aq,cq,rfl⟩:=mq.form;generalize hL:q.length=L at *;have HL:=zQY hL;clear hL;go_wp2_with fail
  refine (zDP mp mq (by rw [HL.out]; exact tq)).mono ?_;rintro e w4 ⟨rfl,b2⟩;have mc:=mc.below b2;have mu:=mu.below b2;have mv:=mv.below b2;have mp:=mp.below b2;have mq:=mq.below b2;have b1:=zAA.step b1 b2;clear b2;clear mp;go_upto_if 71 with fail
  go_cut [] (fun wx=>Hid (Below w.heap.size w wx))
  case first=>as_aux_lemma =>
   cases ok
   ·have HB:=zQY b1;clear mc mu mv mq b1;go_wp2_with fail
    go_meet
    case rel=>exact HB
   ·have Q:=zQY (HF.out rfl);have HLU:=Q.out.le;have hlv:=zBd mc mv Q.out.wv tc tv;have HU:=zQY (fun w' (hb:Below w4.heap.size w4 w')=>zBd (mc.below hb) (mu.below hb) Q.out.wu tc tu);clear HF s0;generalize (zAB c q0).length=nv at *;generalize (zAB c u).length=nu at *;by_cases h0:L=0
    ·subst h0;by_cases hlt:nu<nv
     ·as_aux_lemma =>
      have i1:¬((0:Nat):Int) > 0:=by omega
      obtain ⟨d,hd⟩:∃d:Nat,d=nv-nu:=⟨_,rfl⟩;have ed:(nv:Int)-(nu:Int)=(d:Int):=by omega
      have i3:(0:Int)<(d:Int):=by omega
      have HM:Hid ((trim q).length≤d+1∧d≤60∧q.length≤61):=zQY ⟨by rw [Q.out.trd]; have:=HL.out; omega,by omega,by omega⟩;have HB1:Hid (blB c u q0=false):=zQY (by rw [<-Q.out.bl]; exact decide_eq_false (by have:=HL.out; omega));clear hd;go_wp2_with fail
      refine hlv.mono ?_;rintro e w5 ⟨rfl,b2⟩;have hlu:=HU.out _ b2;clear hlv HU;have mc:=mc.below b2;have mu:=mu.below b2;have mv:=mv.below b2;have mq:=mq.below b2;have b1:=zAA.step b1 b2;clear b2;go_wp2_with fail
      refine (hlu).mono ?_;rintro e w6 ⟨rfl,b2⟩;clear hlu;have mc:=mc.below b2;have mu:=mu.below b2;have mv:=mv.below b2;have mq:=mq.below b2;have b1:=zAA.step b1 b2;clear b2;have hbl:=zDG mc mu mv tc tu tv;rw [HB1.out] at hbl;go_wp2_with fail
      refine (hbl).mono ?_;rintro e w7 ⟨rfl,b2⟩;clear hbl;have mc:=mc.below b2;have mu:=mu.below b2;have mv:=mv.below b2;have mq:=mq.below b2;have b1:=zAA.step b1 b2;clear b2;go_wp2_with fail
      refine (zCB (n:=d) mq HM.out.2.1 HM.out.2.2 HM.out.1).mono ?_;rintro e w8 ⟨rr,rfl,fr,b2⟩;have mr:=fr.any;clear fr;have mc:=mc.below b2;have mu:=mu.below b2;have mv:=mv.below b2;have mq:=mq.below b2;have b1:=zAA.step b1 b2;clear b2;clear mr;go_wp2_with fail
      refine (zAt mu tu).mono ?_;rintro e w9 ⟨r6,rfl,f6,b2⟩;have m6:=f6.any;clear f6;have mc:=mc.below b2;have mu:=mu.below b2;have mv:=mv.below b2;have mq:=mq.below b2;have b1:=zAA.step b1 b2;clear b2;go_wp2_with fail
      refine (zAt mv tv).mono ?_;rintro e w10 ⟨r7,rfl,f7,b2⟩;have m7:=f7.any;clear f7;have mc:=mc.below b2;have mu:=mu.below b2;have mv:=mv.below b2;have mq:=mq.below b2;have m6:=m6.below b2;have b1:=zAA.step b1 b2;clear b2;have hrp:=zBP mc m6 m7 tc (by simpa using tu) (by simpa using tv);rw [Q.out.rev.1,Q.out.rev.2] at hrp;go_wp2_with fail
      refine (hrp).mono ?_;rintro e w11 ⟨r8,rfl,f8,b2⟩;have m8:=f8.any;clear f8 hrp;have mc:=mc.below b2;have mu:=mu.below b2;have mv:=mv.below b2;have mq:=mq.below b2;have m6:=m6.below b2;have m7:=m7.below b2;have b1:=zAA.step b1 b2;clear b2;clear m6 m7;go_wp2_with fail
      refine (zDP m8 mq (by rw [HL.out]; exact tq)).mono ?_;rintro e w12 ⟨rfl,b2⟩;have mc:=mc.below b2;have mu:=mu.below b2;have mv:=mv.below b2;have mq:=mq.below b2;have m8:=m8.below b2;have b1:=zAA.step b1 b2;clear b2;have HB:=zQY b1;clear mc mu mv mq m8 b1;go_wp2_with fail
      go_meet
      case rel=>exact HB
     ·as_aux_lemma =>
      have i1:¬((0:Nat):Int) > 0:=by omega
      obtain ⟨z,hz⟩:∃z:Int,z=(nv:Int)-(nu:Int):=⟨_,rfl⟩;have ed:(nv:Int)-(nu:Int)=z:=hz.symm;have i3:¬(0:Int)<z:=by omega
      have i4:max (0:Int) z=0:=by omega
      clear hz;have HM:Hid ((trim q).length≤0+1∧0≤60∧q.length≤61):=zQY ⟨by rw [Q.out.trd]; have:=HL.out; omega,by omega,by omega⟩;have HB1:Hid (blB c u q0=false):=zQY (by rw [<-Q.out.bl]; exact decide_eq_false (by have:=HL.out; omega));go_wp2_with fail
      refine hlv.mono ?_;rintro e w5 ⟨rfl,b2⟩;have hlu:=HU.out _ b2;clear hlv HU;have mc:=mc.below b2;have mu:=mu.below b2;have mv:=mv.below b2;have mq:=mq.below b2;have b1:=zAA.step b1 b2;clear b2;go_wp2_with fail
      refine (hlu).mono ?_;rintro e w6 ⟨rfl,b2⟩;clear hlu;have mc:=mc.below b2;have mu:=mu.below b2;have mv:=mv.below b2;have mq:=mq.below b2;have b1:=zAA.step b1 b2;clear b2;have hbl:=zDG mc mu mv tc tu tv;rw [HB1.out] at hbl;go_wp2_with fail
      refine (hbl).mono ?_;rintro e w7 ⟨rfl,b2⟩;clear hbl;have mc:=mc.below b2;have mu:=mu.below b2;have mv:=mv.below b2;have mq:=mq.below b2;have b1:=zAA.step b1 b2;clear b2;go_wp2_with fail
      refine (zCB (n:=0) mq HM.out.2.1 HM.out.2.2 HM.out.1).mono ?_;rintro e w8 ⟨rr,rfl,fr,b2⟩;have mr:=fr.any;clear fr;have mc:=mc.below b2;have mu:=mu.below b2;have mv:=mv.below b2;have mq:=mq.below b2;have b1:=zAA.step b1 b2;clear b2;clear mr;go_wp2_with fail
      refine (zAt mu tu).mono ?_;rintro e w9 ⟨r6,rfl,f6,b2⟩;have m6:=f6.any;clear f6;have mc:=mc.below b2;have mu:=mu.below b2;have mv:=mv.below b2;have mq:=mq.below b2;have b1:=zAA.step b1 b2;clear b2;go_wp2_with fail
      refine (zAt mv tv).mono ?_;rintro e w10 ⟨r7,rfl,f7,b2⟩;have m7:=f7.any;clear f7;have mc:=mc.below b2;have mu:=mu.below b2;have mv:=mv.below b2;have mq:=mq.below b2;have m6:=m6.below b2;have b1:=zAA.step b1 b2;clear b2;have hrp:=zBP mc m6 m7 tc (by simpa using tu) (by simpa using tv);rw [Q.out.rev.1,Q.out.rev.2] at hrp;go_wp2_with fail
      refine (hrp).mono ?_;rintro e w11 ⟨r8,rfl,f8,b2⟩;have m8:=f8.any;clear f8 hrp;have mc:=mc.below b2;have mu:=mu.below b2;have mv:=mv.below b2;have mq:=mq.below b2;have m6:=m6.below b2;have m7:=m7.below b2;have b1:=zAA.step b1 b2;clear b2;clear m6 m7;go_wp2_with fail
      refine (zDP m8 mq (by rw [HL.out]; exact tq)).mono ?_;rintro e w12 ⟨rfl,b2⟩;have mc:=mc.below b2;have mu:=mu.below b2;have mv:=mv.below b2;have mq:=mq.below b2;have m8:=m8.below b2;have b1:=zAA.step b1 b2;clear b2;have HB:=zQY b1;clear mc mu mv mq m8 b1;go_wp2_with fail
      go_meet
      case rel=>exact HB
    ·by_cases hlt:nu<nv
     ·as_aux_lemma =>
      have i1:(L:Int) > 0:=by omega
      obtain ⟨d,hd⟩:∃d:Nat,d=nv-nu:=⟨_,rfl⟩;have ed:(nv:Int)-(nu:Int)=(d:Int):=by omega
      have i3:(0:Int)<(d:Int):=by omega
      have HM:Hid ((trim q).length≤d+1∧d≤60∧q.length≤61):=zQY ⟨by rw [Q.out.trd]; have:=HL.out; have:=(Q.out.deg (by omega)).2.1; omega,by omega,by omega⟩;have HB1:Hid (blB c u q0=true):=zQY (by rw [<-Q.out.bl]; exact decide_eq_true (by have:=HL.out; omega));have e5:((L:Int) != (d:Int)+1)=false:=by have:=(Q.out.deg (by have:=HL.out; omega)).2.1; have:=HL.out; simp; omega
      have hdl:d<L:=by have:=(Q.out.deg (by have:=HL.out; omega)).2.1; have:=HL.out; omega
      have HN1:Hid (num q d=1):=zQY (by have:=(Q.out.deg (by have:=HL.out; omega)).2.2; rwa [<-hd] at this);have HEQ:Hid (eqL (trim (trim (zBL (trim q) d (trim q).length))) (trim (mulP q [if ((d:Nat):Int) % 2=0 then 1 else -1]))=true):=zQY (by
       have h1:=Q.out.mir (by have:=HL.out; omega);rw [ed] at h1;have h2:=zGh (t:=q) (n:=d) (by have:=(Q.out.deg (by have:=HL.out; omega)).2.1; omega);rw [Q.out.trd,h2,zDH (zBI _),h1];apply zFS)
      clear hd;go_wp2_with fail
      refine hlv.mono ?_;rintro e w5 ⟨rfl,b2⟩;have hlu:=HU.out _ b2;clear hlv HU;have mc:=mc.below b2;have mu:=mu.below b2;have mv:=mv.below b2;have mq:=mq.below b2;have b1:=zAA.step b1 b2;clear b2;go_wp2_with fail
      refine (hlu).mono ?_;rintro e w6 ⟨rfl,b2⟩;clear hlu;have mc:=mc.below b2;have mu:=mu.below b2;have mv:=mv.below b2;have mq:=mq.below b2;have b1:=zAA.step b1 b2;clear b2;have hbl:=zDG mc mu mv tc tu tv;rw [HB1.out] at hbl;go_wp2_with fail
      refine (hbl).mono ?_;rintro e w7 ⟨rfl,b2⟩;clear hbl;have mc:=mc.below b2;have mu:=mu.below b2;have mv:=mv.below b2;have mq:=mq.below b2;have b1:=zAA.step b1 b2;clear b2;obtain ⟨bq,oq,xq,e8,hcq,hxq⟩:=mq.at hdl;have hx1:xq=1:=by have h1:=zAm hxq.out; rw [HN1.out] at h1; exact h1.symm
      subst e8 hx1;clear hxq;go_wp2_with fail
      refine (zCB (n:=d) mq HM.out.2.1 HM.out.2.2 HM.out.1).mono ?_;rintro e w8 ⟨rr,rfl,fr,b2⟩;have mr:=fr.any;clear fr;clear hcq;have mc:=mc.below b2;have mu:=mu.below b2;have mv:=mv.below b2;have mq:=mq.below b2;have b1:=zAA.step b1 b2;clear b2;go_wp2_with fail
      refine (zMB (n:=d)).mono ?_;rintro e w9 ⟨rfl,rfl⟩;obtain ⟨sg,hsg⟩:∃sg:Int,sg=if ((d:Nat):Int) % 2=0 then 1 else -1:=⟨_,rfl⟩
      rw [<-hsg] at HEQ;rw [<-hsg];clear hsg;have b2:=(Below.refl w8.heap.size w8).alloc (zQd _) (.cells #[.int .i64 sg] 3);have m1:=RI.one w8 sg;have mc:=mc.below b2;have mu:=mu.below b2;have mv:=mv.below b2;have mq:=mq.below b2;have mr:=mr.below b2;have b1:=zAA.step b1 b2;clear b2;go_wp2_with fail
      refine (zGu mq m1 (by have:=HM.out.2.2; omega) (by simp)).mono ?_;rintro e w10 ⟨rm,rfl,fm,b2⟩;have mm:=fm.any;clear fm m1;have mc:=mc.below b2;have mu:=mu.below b2;have mv:=mv.below b2;have mq:=mq.below b2;have mr:=mr.below b2;have b1:=zAA.step b1 b2;clear b2;have hep:=zEC mr mm (by have:=zBm (zBL (trim q) d (trim q).length); have:=zBz (trim q) d (trim q).length; have:=HM.out.2.1; omega) (by have:=(zCp q [sg]).2.2; omega);rw [HEQ.out] at hep;go_wp2_with fail
      refine (hep).mono ?_;rintro e w11 ⟨rfl,b2⟩;clear hep;have mc:=mc.below b2;have mu:=mu.below b2;have mv:=mv.below b2;have mq:=mq.below b2;have mr:=mr.below b2;have mm:=mm.below b2;have b1:=zAA.step b1 b2;clear b2;clear mm;clear mr;go_wp2_with fail
      refine (zAt mu tu).mono ?_;rintro e w12 ⟨r6,rfl,f6,b2⟩;have m6:=f6.any;clear f6;have mc:=mc.below b2;have mu:=mu.below b2;have mv:=mv.below b2;have mq:=mq.below b2;have b1:=zAA.step b1 b2;clear b2;go_wp2_with fail
      refine (zAt mv tv).mono ?_;rintro e w13 ⟨r7,rfl,f7,b2⟩;have m7:=f7.any;clear f7;have mc:=mc.below b2;have mu:=mu.below b2;have mv:=mv.below b2;have mq:=mq.below b2;have m6:=m6.below b2;have b1:=zAA.step b1 b2;clear b2;have hrp:=zBP mc m6 m7 tc (by simpa using tu) (by simpa using tv);rw [Q.out.rev.1,Q.out.rev.2] at hrp;go_wp2_with fail
      refine (hrp).mono ?_;rintro e w14 ⟨r8,rfl,f8,b2⟩;have m8:=f8.any;clear f8 hrp;have mc:=mc.below b2;have mu:=mu.below b2;have mv:=mv.below b2;have mq:=mq.below b2;have m6:=m6.below b2;have m7:=m7.below b2;have b1:=zAA.step b1 b2;clear b2;clear m6 m7;go_wp2_with fail
      refine (zDP m8 mq (by rw [HL.out]; exact tq)).mono ?_;rintro e w15 ⟨rfl,b2⟩;have mc:=mc.below b2;have mu:=mu.below b2;have mv:=mv.below b2;have mq:=mq.below b2;have m8:=m8.below b2;have b1:=zAA.step b1 b2;clear b2;have HB:=zQY b1;clear mc mu mv mq m8 b1;go_wp2_with fail
      go_meet
      case rel=>exact HB
     ·as_aux_lemma =>
      have i1:(L:Int) > 0:=by omega
      have hnn:nv=nu:=by have:=(Q.out.deg (by have:=HL.out; omega)).1; omega
      have ed:(nv:Int)-(nu:Int)=0:=by omega
      have i3:¬(0:Int)<0:=by omega
      have HM:Hid ((trim q).length≤0+1∧0≤60∧q.length≤61):=zQY ⟨by rw [Q.out.trd]; have:=HL.out; have:=(Q.out.deg (by omega)).2.1; omega,by omega,by omega⟩;have HB1:Hid (blB c u q0=true):=zQY (by rw [<-Q.out.bl]; exact decide_eq_true (by have:=HL.out; omega));have e5:((L:Int) != 1)=false:=by have:=(Q.out.deg (by have:=HL.out; omega)).2.1; have:=HL.out; simp; omega
      have hdl:0<L:=by have:=(Q.out.deg (by have:=HL.out; omega)).2.1; have:=HL.out; omega
      have HN1:Hid (num q 0=1):=zQY (by have:=(Q.out.deg (by have:=HL.out; omega)).2.2; rwa [hnn,Nat.sub_self] at this);have HEQ:Hid (eqL (trim (trim (zBL (trim q) 0 (trim q).length))) (trim (mulP q [if ((0:Nat):Int) % 2=0 then 1 else -1]))=true):=zQY (by
       have h1:=Q.out.mir (by have:=HL.out; omega);rw [ed] at h1;have h2:=zGh (t:=q) (n:=0) (by have:=(Q.out.deg (by have:=HL.out; omega)).2.1; omega);rw [Q.out.trd,h2,zDH (zBI _),h1];apply zFS)
      go_wp2_with fail
      refine hlv.mono ?_;rintro e w5 ⟨rfl,b2⟩;have hlu:=HU.out _ b2;clear hlv HU;have mc:=mc.below b2;have mu:=mu.below b2;have mv:=mv.below b2;have mq:=mq.below b2;have b1:=zAA.step b1 b2;clear b2;go_wp2_with fail
      refine (hlu).mono ?_;rintro e w6 ⟨rfl,b2⟩;clear hlu;have mc:=mc.below b2;have mu:=mu.below b2;have mv:=mv.below b2;have mq:=mq.below b2;have b1:=zAA.step b1 b2;clear b2;have hbl:=zDG mc mu mv tc tu tv;rw [HB1.out] at hbl;go_wp2_with fail
      refine (hbl).mono ?_;rintro e w7 ⟨rfl,b2⟩;clear hbl;have mc:=mc.below b2;have mu:=mu.below b2;have mv:=mv.below b2;have mq:=mq.below b2;have b1:=zAA.step b1 b2;clear b2;obtain ⟨bq,oq,xq,e8,hcq,hxq⟩:=mq.at hdl;have hx1:xq=1:=by have h1:=zAm hxq.out; rw [HN1.out] at h1; exact h1.symm
      subst e8 hx1;clear hxq;simp only [Nat.add_zero] at hcq;go_wp2_with fail
      refine (zCB (n:=0) mq HM.out.2.1 HM.out.2.2 HM.out.1).mono ?_;rintro e w8 ⟨rr,rfl,fr,b2⟩;have mr:=fr.any;clear fr;clear hcq;have mc:=mc.below b2;have mu:=mu.below b2;have mv:=mv.below b2;have mq:=mq.below b2;have b1:=zAA.step b1 b2;clear b2;go_wp2_with fail
      refine (zMB (n:=0)).mono ?_;rintro e w9 ⟨rfl,rfl⟩;obtain ⟨sg,hsg⟩:∃sg:Int,sg=if ((0:Nat):Int) % 2=0 then 1 else -1:=⟨_,rfl⟩
      rw [<-hsg] at HEQ;rw [<-hsg];clear hsg;have b2:=(Below.refl w8.heap.size w8).alloc (zQd _) (.cells #[.int .i64 sg] 3);have m1:=RI.one w8 sg;have mc:=mc.below b2;have mu:=mu.below b2;have mv:=mv.below b2;have mq:=mq.below b2;have mr:=mr.below b2;have b1:=zAA.step b1 b2;clear b2;go_wp2_with fail
      refine (zGu mq m1 (by have:=HM.out.2.2; omega) (by simp)).mono ?_;rintro e w10 ⟨rm,rfl,fm,b2⟩;have mm:=fm.any;clear fm m1;have mc:=mc.below b2;have mu:=mu.below b2;have mv:=mv.below b2;have mq:=mq.below b2;have mr:=mr.below b2;have b1:=zAA.step b1 b2;clear b2;have hep:=zEC mr mm (by have:=zBm (zBL (trim q) 0 (trim q).length); have:=zBz (trim q) 0 (trim q).length; have:=HM.out.2.1; omega) (by have:=(zCp q [sg]).2.2; omega);rw [HEQ.out] at hep;go_wp2_with fail
      refine (hep).mono ?_;rintro e w11 ⟨rfl,b2⟩;clear hep;have mc:=mc.below b2;have mu:=mu.below b2;have mv:=mv.below b2;have mq:=mq.below b2;have mr:=mr.below b2;have mm:=mm.below b2;have b1:=zAA.step b1 b2;clear b2;clear mm;clear mr;go_wp2_with fail
      refine (zAt mu tu).mono ?_;rintro e w12 ⟨r6,rfl,f6,b2⟩;have m6:=f6.any;clear f6;have mc:=mc.below b2;have mu:=mu.below b2;have mv:=mv.below b2;have mq:=mq.below b2;have b1:=zAA.step b1 b2;clear b2;go_wp2_with fail
      refine (zAt mv tv).mono ?_;rintro e w13 ⟨r7,rfl,f7,b2⟩;have m7:=f7.any;clear f7;have mc:=mc.below b2;have mu:=mu.below b2;have mv:=mv.below b2;have mq:=mq.below b2;have m6:=m6.below b2;have b1:=zAA.step b1 b2;clear b2;have hrp:=zBP mc m6 m7 tc (by simpa using tu) (by simpa using tv);rw [Q.out.rev.1,Q.out.rev.2] at hrp;go_wp2_with fail
      refine (hrp).mono ?_;rintro e w14 ⟨r8,rfl,f8,b2⟩;have m8:=f8.any;clear f8 hrp;have mc:=mc.below b2;have mu:=mu.below b2;have mv:=mv.below b2;have mq:=mq.below b2;have m6:=m6.below b2;have m7:=m7.below b2;have b1:=zAA.step b1 b2;clear b2;clear m6 m7;go_wp2_with fail
      refine (zDP m8 mq (by rw [HL.out]; exact tq)).mono ?_;rintro e w15 ⟨rfl,b2⟩;have mc:=mc.below b2;have mu:=mu.below b2;have mv:=mv.below b2;have mq:=mq.below b2;have m8:=m8.below b2;have b1:=zAA.step b1 b2;clear b2;have HB:=zQY b1;clear mc mu mv mq m8 b1;go_wp2_with fail
      go_meet
      case rel=>exact HB
  case rest=>as_aux_lemma =>
   have b1:=hcut.out;clear hcut HF HL s0 tc tu tv tq mc mu mv mq;go_wp2_with fail
   refine (zMp (h.below b1) hn).mono ?_;rintro e w61 ⟨r1,r3,rfl,r2,c,u,x,hD⟩;have mc:=hD.rm;have mx:=hD.rv;have b2:=hD.bl;have tc:=hD.tot;have tx:x.length≤16777216:=by have:=hD.lv; omega
   have HX:=zQY hD.lv;clear hD;have b1:=zAA.step b1 b2;clear b2;go_wp2_with fail
   refine (zOL mc mx tc tx).mono ?_;rintro e w62 ⟨r4,rfl,f4,b2⟩;have mh:=FT.any f4;clear f4;have mc:=mc.below b2;have mx:=mx.below b2;have b1:=zAA.step b1 b2;clear b2;go_wp2_with fail
   refine (zOM mc mx tc tx).mono ?_;rintro e w63 ⟨r5,rfl,f5,b2⟩;have mk:=FT.any f5;clear f5;have mc:=mc.below b2;have mx:=mx.below b2;have mh:=mh.below b2;have b1:=zAA.step b1 b2;clear b2;have HT:=zQY (zLQ c x);have HI:Hid (ibB c x=true→(isWd c x=true∧(zAB c x).length≤10)∧(∀t∈ibR c x,InI t.2)∧(mhB c (zAs c x.reverse) (ibR c x)=true→eqHk (mhR c (zAs c x.reverse) (ibR c x)) (scR c (zAd [1] (zAB c x).length) (zAs c []))=true)):=zQY (fun h=>⟨zMm h,zPh h,fun h2=>by rw [zMo h h2,zEv]⟩);generalize ibB c x=ok at *;generalize ibR c x=K at *;have s0:(ok != ok)=false:=by simp
   go_wp2_with fail
   refine (zKU mh mk (by have:=HT.out; omega)).mono ?_;rintro e w64 ⟨rfl,b2⟩;have mc:=mc.below b2;have mx:=mx.below b2;have mh:=mh.below b2;have mk:=mk.below b2;have b1:=zAA.step b1 b2;clear b2;clear mh;go_upto_if 173 with fail
   go_cut [] (fun wx=>Hid (Below w.heap.size w wx))
   case first=>as_aux_lemma =>
    cases ok
    ·have HB:=zQY b1;clear mc mx mk b1;go_wp2_with fail
     go_meet
     case rel=>exact HB
    ·have Q:=zQY (HI.out rfl);clear HI s0;have txr:x.reverse.length≤16777216:=by rw [List.length_reverse]; exact tx
     have hwr:isWd c x.reverse=true:=zGn Q.out.1.1;have HLN:=zQY Q.out.1.2;go_wp2_with fail
     refine (zAt mx tx).mono ?_;rintro e w65 ⟨r6,rfl,f6,b2⟩;have m6:=f6.any;clear f6;have mc:=mc.below b2;have mx:=mx.below b2;have mk:=mk.below b2;have b1:=zAA.step b1 b2;clear b2;have hbs:=zD6 mc m6 tc txr;rw [hwr] at hbs;clear hwr;go_wp2_with fail
     refine (hbs).mono ?_;rintro e w66 ⟨r7,rfl,f7,b2⟩;have mt:=FT.any f7;clear f7 hbs;have mc:=mc.below b2;have mx:=mx.below b2;have mk:=mk.below b2;have m6:=m6.below b2;have b1:=zAA.step b1 b2;clear b2;clear m6;have HTT:Hid (zAI (zAs c x.reverse)≤1048576):=zQY (by have h1:=zEr c x.reverse; rw [List.length_reverse] at h1; have:=HX.out; omega);go_wp2_with fail
     refine (zIe mc mt mk tc HTT.out (by have:=HT.out; omega) (zMU c x.reverse) Q.out.2.1).mono ?_;rintro e w67 ⟨r8,rfl,f8,b2⟩;have my:=FT.any f8;clear f8;have mc:=mc.below b2;have mx:=mx.below b2;have mk:=mk.below b2;have mt:=mt.below b2;have b1:=zAA.step b1 b2;clear b2;have HTY:=zQY (zLd c (zAs c x.reverse) K);clear mt;have b2:=(Below.refl w67.heap.size w67).alloc (zQd _) (.cells #[] 3);have m0:RI Any (w67.alloc (.cells #[] 3)) (.slice (some ⟨w67.heap.size,0,none⟩) 0 0) []:=(zAR (w:=w67) (Below.refl _ w67) rfl).1.any;have mc:=mc.below b2;have mx:=mx.below b2;have mk:=mk.below b2;have my:=my.below b2;have b1:=zAA.step b1 b2;clear b2;go_wp2_with fail
     refine (zD6 mc m0 tc (by simp)).mono ?_;rintro e w68 ⟨r9,rfl,f9,b2⟩;have me:=FT.any f9;clear f9;have mc:=mc.below b2;have mx:=mx.below b2;have mk:=mk.below b2;have my:=my.below b2;have m0:=m0.below b2;have b1:=zAA.step b1 b2;clear b2;clear m0;generalize isWd c []=o9 at *;have b2:=(Below.refl w68.heap.size w68).alloc (zQd _) (.cells #[.int .i64 1] 3);have m1:=(RI.one w68 1).any;have mc:=mc.below b2;have mx:=mx.below b2;have mk:=mk.below b2;have my:=my.below b2;have me:=me.below b2;have b1:=zAA.step b1 b2;clear b2;go_wp2_with fail
     refine (zBd mc mx Q.out.1.1 tc tx).mono ?_;rintro e w69 ⟨rfl,b2⟩;have mc:=mc.below b2;have mx:=mx.below b2;have mk:=mk.below b2;have my:=my.below b2;have me:=me.below b2;have m1:=m1.below b2;have b1:=zAA.step b1 b2;clear b2;generalize (zAB c x).length=nl at *;go_wp2_with fail
     refine (zDQ m1 nl (by have:=HLN.out; omega) (by simp)).mono ?_;rintro e w70 ⟨r10,rfl,f10,b2⟩;have ms:=f10.any;clear f10;have mc:=mc.below b2;have mx:=mx.below b2;have mk:=mk.below b2;have my:=my.below b2;have me:=me.below b2;have m1:=m1.below b2;have b1:=zAA.step b1 b2;clear b2;clear m1;have HSL:Hid ((zAd [1] nl).length≤1048576):=zQY (by
      unfold zAd;rw [if_neg (by simp)];have h1:=zBm (List.replicate nl 0++[1]);have:=HLN.out;rw [List.length_append,List.length_replicate,List.length_singleton] at h1;omega)
     go_wp2_with fail
     refine (zG1 mc me ms tc (by have:=zEr c []; simp at this; omega) HSL.out).mono ?_;rintro e w71 ⟨r11,rfl,f11,b2⟩;have mz:=FT.any f11;clear f11;have mc:=mc.below b2;have mx:=mx.below b2;have mk:=mk.below b2;have my:=my.below b2;have me:=me.below b2;have ms:=ms.below b2;have b1:=zAA.step b1 b2;clear b2;have HTZ:=zQY (zHf c (zAd [1] nl) (zAs c []));generalize scB c (zAd [1] nl) (zAs c [])=o11 at *;generalize hdone:mhB c (zAs c x.reverse) K=dn at *;have HDN:=zQY hdone;clear hdone;clear mc mx mk me ms;cases dn
     ·have HB:=zQY b1;clear my mz b1;go_wp2_with fail
      go_meet
      case rel=>exact HB
     ·have hq:=zEB my mz (by have:=HTY.out; omega) (by have:=HTZ.out; omega);rw [Q.out.2.2 rfl] at hq;go_wp2_with fail
      refine hq.mono ?_;rintro e w72 ⟨rfl,hq2⟩;have HB:=zQY (zAA.step b1 (zAO hq2));clear my mz b1 hq hq2;go_wp2_with fail
      go_meet
      case rel=>exact HB
   case rest=>as_aux_lemma =>
    have b1:=hcut.out;clear hcut HI HT HX s0 tc tx mc mx mk;go_wp2_with fail
    refine (zNG (h.below b1) hn).mono ?_;rintro e w73 ⟨r1,r3,rfl,r2,c1,u1,x1,hD⟩;have m1:=hD.rm;have m2:=hD.rv;have b2:=hD.bl;have tc:=hD.tot;have tx:x1.length≤16777216:=by have:=hD.lv; omega
    clear hD;have b1:=zAA.step b1 b2;clear b2;go_wp2_with fail
    refine (zGj m1 m2 tc tx).mono ?_;rintro e w74 ⟨r4,rfl,f4,b2⟩;have p1:=RII.any f4.any;clear f4;have m1:=m1.below b2;have m2:=m2.below b2;have b1:=zAA.step b1 b2;clear b2;go_wp2_with fail
    refine (zKh m1 m2 tc tx).mono ?_;rintro e w75 ⟨r5,rfl,f5,b2⟩;have p2:=RII.any f5.any;clear f5;have m1:=m1.below b2;have m2:=m2.below b2;have p1:=p1.below b2;have b1:=zAA.step b1 b2;clear b2;clear m1 m2;have z1:total (rtR c1 x1)≤16777216:=by have:=zL6 c1 x1; omega
    clear tc tx;generalize rtOk c1 x1=q1 at *;generalize rtR c1 x1=P1 at *;have s1:(q1 == q1)=true:=by simp
    go_wp2_with fail
    refine (zI4 (h.below b1) hn).mono ?_;rintro e w76 ⟨r1,r2,r3,xq,rfl,c1,u1,x1,hD⟩;have m1:=hD.rm;have m2:=hD.ru;have m3:=hD.rv;have b2:=hD.bl;have tc:=hD.tot;have tu:u1.length≤16777216:=by have:=hD.lu; omega
    have tx:x1.length≤16777216:=by have:=hD.lv; omega
    clear hD;have p1:=p1.below b2;have p2:=p2.below b2;have b1:=zAA.step b1 b2;clear b2;go_wp2_with fail
    refine (zGy (q:=xq) m1 m2 m3 tc tu tx).mono ?_;rintro e w77 ⟨rfl,b2⟩;have p1:=p1.below b2;have p2:=p2.below b2;have m1:=m1.below b2;have m2:=m2.below b2;have m3:=m3.below b2;have b1:=zAA.step b1 b2;clear b2;go_wp2_with fail
    refine (zKj p1 p2 z1).mono ?_;rintro e w78 ⟨rfl,b2⟩;clear p1 p2;have m1:=m1.below b2;have m2:=m2.below b2;have m3:=m3.below b2;have b1:=zAA.step b1 b2;clear b2;have hr:=zGz (q:=xq) m1 m2 m3 tc tu tx;have hpos:=zNF c1 u1 x1 xq;generalize rich c1 u1 x1 xq=rr at *;have s2:(rr == rr)=true:=by simp
    have s3:rr≥-1:=hpos;clear m1 m2 m3;go_wp2_with fail
    refine (hr).mono ?_;rintro e w79 ⟨rfl,b2⟩;clear hr;have b1:=zAA.step b1 b2;clear b2;go_wp2_with fail
    go_ret
    exact ⟨rfl,b1⟩
end Go.Proofs.YtlchafedbnihoaaGreat
