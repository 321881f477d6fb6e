/- The powers of a word under the star product, both sides. Condition: sizes up to 2^24. -/
import Derived.Test.YtlchafedbnihoaaJGStrI
namespace Go.Proofs.Ytlchafedbnihoaa
open Go.RowKit
set_option maxRecDepth 20000
set_option maxHeartbeats 8000000
def powL (c:List (List Int)) (y:List Int):Nat→List Int→List (List Int)
 | 0,_=>[]
 | f+1,x=>if x.length≤15 then x::(if zAC c x y=x then [] else powL c y f (zAC c x y)) else []
def powV (c:List (List Int)) (a:List Int):List (List Int):=if isWd c a=true then powL c (zAB c a) 17 (zAB c a) else []
theorem zFt (c:List (List Int)) (y:List Int):∀(f:Nat) (x:List Int),(powL c y f x).length≤f∧∀z∈powL c y f x,z.length≤15
 | 0,_=>⟨by simp [powL],fun z hz=>by simp [powL] at hz⟩
 | f+1,x=>by
  unfold powL;have ih:=zFt c y f (zAC c x y);by_cases h:x.length≤15
  ·rw [if_pos h];split
   ·refine ⟨by simp,fun z hz=>?_⟩;rw [List.mem_singleton] at hz;rw [hz]; exact h
   ·refine ⟨by rw [List.length_cons]; omega,fun z hz=>?_⟩;rcases List.mem_cons.1 hz with rfl | hz
    ·exact h
    ·exact ih.2 z hz
  ·rw [if_neg h];exact ⟨by simp,fun z hz=>by simp at hz⟩
theorem zId (c:List (List Int)) (a:List Int):(powV c a).length≤17∧∀z∈powV c a,z.length≤15:=by
 unfold powV;split
 ·exact zFt c _ _ _
 ·exact ⟨by simp,fun z hz=>by simp at hz⟩
theorem zBs {c:List (List Int)} {y x:List Int} {f:Nat} (h:x.length≤15):powL c y (f+1) x=x::(if zAC c x y=x then [] else powL c y f (zAC c x y)):=by
 show (if x.length≤15 then x::(if zAC c x y=x then [] else powL c y f (zAC c x y)) else [])=_;rw [if_pos h]
theorem zE4 {c:List (List Int)} {y x:List Int} {f:Nat} (h:15<x.length):powL c y f x=[]:=by
 cases f with
 | zero=>rfl
 | succ f=>unfold powL; rw [if_neg (by omega)]
theorem zGR (c:List (List Int)) (x:List Int) (i:Int):x.length≤(zAJ c x i).length:=zBe c [i] x
theorem zD5 {c:List (List Int)} (hc:CartanP c):∀(l:List Int) {x:List Int},Nice c x→Lets c.length l→(zAC c x l).length≤27→Nice c (zAC c x l)
 | [],_,h,_,_=>h
 | i::l,x,h,hl,hn=>by
  obtain ⟨⟨k,rfl,hk⟩,hll⟩:=letN hl;have hn:(zAC c (zAJ c x k) l).length≤27:=hn;have h1:=zBe c l (zAJ c x k);have h2:=zGR c x k;exact zD5 hc l (zCG hc h (by omega) hk).1 hll hn
theorem zCK {c:List (List Int)} (hc:CartanP c) {x:List Int} (h:Lets c.length x) (hl:x.length≤15):isWd c x=true:=by
 unfold isWd;rw [zAR.2 hc,decide_eq_true hl,Bool.true_and,Bool.true_and,zDR];intro z hz;have:=h z hz;unfold ptB inR;rw [Bool.and_eq_true,decide_eq_true_eq,decide_eq_true_eq];omega
structure PowS (c:List (List Int)) (a y x:List Int):Prop where
 ok:zAP c x a=decide ((zAC c x y).length≤15)
 val:zAO c x a=if (zAC c x y).length≤15 then zAC c x y else []
 two:zAC c x y=x∨x.length<(zAC c x y).length
 nice:(zAC c x y).length≤15→Nice c (zAC c x y)
 le:(zAC c x y).length≤30
theorem zHx {c:List (List Int)} {a x:List Int} (pa:WdP c a) (ha:isWd c a=true) (hx:Nice c x) (hl:x.length≤15):PowS c a (zAB c a) x:=by
 have h1:=zCK pa.cart hx.lets hl;have h2:zAN c x a=zAC c x (zAB c a):=by unfold zAN; rw [hx.nrm]
 have h3:zAP c x a=decide ((zAC c x (zAB c a)).length≤15):=by unfold zAP; rw [h1,ha,h2]; rfl
 have hn:=pa.nn;refine ⟨h3,?_,zEU pa.cart _ hx.lets pa.nl (by omega),fun h=>zD5 pa.cart _ hx pa.nl (by omega),?_⟩
 ·unfold zAO;rw [h3,h2];simp only [decide_eq_true_eq]
 ·have:=(zCo pa.cart _ hx.lets pa.nl (by omega)).2;omega
theorem zEE {S S1:Nat→Prop} {u v1:Value} {c:List (List Int)} {a:List Int} {w:World} (h:RII S w u c) (h1:RI S1 w v1 a) (hl:total c≤16777216) (la:a.length≤16777216) :
  Calls Try.prog 29 #[u,v1] w fun e w'=>∃r,e=.returned r∧FR (New w w') w' r (powV c a)∧Below w.heap.size w w':=by
 have HV:Hid (powV c a=if isWd c a=true then powL c (zAB c a) 17 (zAB c a) else []):=zJh rfl;have HPA:Hid (isWd c a=true→WdP c a∧Nice c (zAB c a)):=zJh (fun h=>⟨wd_p h,(zAV (wd_p h).cart (wd_p h).lets (by have:=(wd_p h).len; omega)).1⟩);have HS:Hid (isWd c a=true→∀x,Nice c x→x.length≤15→PowS c a (zAB c a) x):=zJh (fun h x hx hl=>zHx (wd_p h) h hx hl);generalize powV c a=res at *;go_enter Try.func29,Try.ntmps29
 go_wp2_with fail
 obtain ⟨w1,hw1⟩:∃w1,w1=w.alloc (.cells #[] 25):=⟨_,rfl⟩;obtain ⟨f1,b1⟩:=FR.empty_of (Below.refl _ w) hw1;rw [<-hw1];clear hw1;refine (zAl (h.below b1) (h1.below b1) hl la).mono ?_;rintro e w2 ⟨rfl,hw2⟩;have bq:=zAH hw2;have f2:=f1.grow bq;have b2:=zAA.step b1 bq;clear hw2 bq f1 b1;cases hA:isWd c a
 ·have e0:Hid ([]=res):=zJh (by rw [HV.out,hA]; rfl);go_wp2_with fail
  go_ret
  exact ⟨_,rfl,by rw [<-e0.out]; exact f2,b2⟩
 ·have PA:=zJh (HPA.out hA);have HS2:=zJh (HS.out hA);have HV2:Hid (([]:List (List Int))++powL c (zAB c a) 17 (zAB c a)=res):=zJh (by rw [HV.out,if_pos hA]; rfl);have hn15:=PA.out.1.nn;clear hA HPA HS HV;go_wp2_with fail
  refine (zA1 (h.below b2) (h1.below b2) PA.out.1.cart PA.out.1.lets (by have:=PA.out.1.len; omega)).mono ?_;rintro e w3 ⟨r3,rfl,f3,b3⟩;have b03:=zAA.step b2 b3;have f23:=f2.grow b3;have hr3:RI (New w w3) w3 r3 (zAB c a):=(f3.mono (fun b hb=>⟨Nat.le_trans b2.size hb.1,hb.2⟩)).reads;have HN0:=zJh PA.out.2;obtain ⟨a3,c3,rfl⟩:=f3.form;clear f2 f3 b2 b3;generalize hy:zAB c a=y at *;clear hy;generalize hyl:y.length=yl at *;have HYN:=zJh hyl;clear hyl;have bb:Below w3.heap.size w3 (w3.alloc (.cells #[.slice a3 yl c3] 25)):=(Below.refl _ _).alloc (zJm _) _;have hcn:(w3.alloc (.cells #[.slice a3 yl c3] 25)).cell? ⟨w3.heap.size,0,none⟩=some (.slice a3 yl c3):=by go_simp
  have hln:([]:List (List Int)).length+1≤67108864:=by simp
  go_wp2_with (at_builtin; go_must (refine zA2 (W:=w) rfl _ _ rfl rfl (f23.grow bb) (zAA.step b03 bb) rfl hcn ((hr3.below bb).mono (fun b hb'=>⟨hb'.1,Nat.lt_of_lt_of_le hb'.2 bb.size⟩)) hln ?_))
  intro v4 w4 f4 b4 _;have f4:FR (New w w4) w4 v4 ([]++[y]):=f4;clear f23 hr3 bb hcn hln b03;go_wp2_with fail
  go_loopw [5] (fun oo wr=>∃(f:Nat) (acc:List (List Int)) (x:List Int) (vo:Value),vo=oo∧FR (New w wr) wr vo (acc++[x])∧Hid (acc++powL c y f x=res)∧Hid (Nice c x)∧x.length≤15∧acc.length+f=17∧17≤f+x.length∧Below w.heap.size w wr) (fun oo _=>18-lenV oo)
  case atStart=>exact ⟨17,[],y,v4,rfl,f4,HV2,HN0,by rw [HYN.out]; exact hn15,rfl,by omega,b4⟩
  case round =>
   clear f4 b4 HV2 HN0;obtain ⟨f,acc,x,vo,rfl,hf,HK,HX,hx,haf,hfx,hb⟩:=hrel;obtain ⟨f,rfl⟩:∃g,f=g+1:=⟨f-1,by omega⟩;have P:=zJh (HS2.out x HX.out hx);have hrd:=hf.reads;obtain ⟨ao,co,rfl⟩:=hf.form;obtain ⟨p,hp⟩:∃p,p=acc.length:=⟨_,rfl⟩;have hlen:(acc++[x]).length=p+1:=by rw [List.length_append,hp]; rfl
   rw [hlen] at hf hrd ⊢;obtain ⟨b5,o5,r5,x5,e5,hcr,hr5,hx5⟩:=hrd.at (j:=p) (by omega);have ex:x5=x:=by
    have h1:=hx5.out;rw [hp,List.getElem?_append_right (zJm _),Nat.sub_self] at h1;exact (Option.some.inj h1).symm
   subst ex;subst e5;have hpf:p+(f+1)=17:=by omega
   have HPP:=zJh hp;clear hp;obtain ⟨ar5,cr5,rfl⟩:=hr5.form;clear hx5;have j1:IntKind.i64.wrap ((p:Int)+1-1)=(p:Int):=(IntWalk.i64_in _ (by omega)).trans (by omega);have j2:(0:Int)≤(p:Int):=by omega
   have j3:(p:Int)<(p:Int)+1:=by omega
   have j4:((p:Int)).toNat=p:=by omega
   go_wp2_with fail
   refine (zAc (h.below hb) hr5 (h1.below hb) hl (by omega) la).mono ?_;rintro e w6 ⟨r6,rfl,f6,b6⟩;have hb6:=zAA.step hb b6;have hf6:=hf.grow b6;rw [P.out.val] at f6;rw [P.out.ok];have hr56:=hr5.below b6;clear hr5 hrd hcr hf;by_cases h15:(zAC c x5 y).length≤15
   ·rw [decide_eq_true h15];rw [if_pos h15] at f6;have HT:=zJh P.out.two;have HNI:=zJh (P.out.nice h15);go_wp2_with fail
    refine (zBg hr56 f6.reads (by omega) (by omega)).mono ?_;rintro e w7 ⟨rfl,hw7⟩;have b7:=zAH hw7;have hb7:=zAA.step hb6 b7;have hf7:=hf6.grow b7;have f7:=f6.below b7;clear hw7;by_cases heq:zAC c x5 y=x5
    ·have e0:eqL x5 (zAC c x5 y)=true:=by rw [heq]; exact zEm _
     have e1:Hid (acc++[x5]=res):=zJh (by rw [<-HK.out,zBs hx,if_pos heq]);rw [e0];clear f6 f7;go_wp2_with fail
     go_ret
     exact ⟨_,rfl,by rw [<-e1.out]; exact hf7,hb7⟩
    ·have e0:eqL x5 (zAC c x5 y)=false:=by unfold eqL; rw [decide_eq_false_iff_not]; exact fun e=>heq e.symm
     have e1:Hid ((acc++[x5])++powL c y f (zAC c x5 y)=res):=zJh (by rw [<-HK.out,zBs hx,if_neg heq]; simp);have hgr:x5.length<(zAC c x5 y).length:=by
      rcases HT.out with h | h
      ·exact absurd h heq
      ·exact h
     have hl2:(acc++[x5]).length+f=17:=by omega
     rw [e0];have hr7:RI (New w w7) w7 r6 (zAC c x5 y):=f7.reads.mono (fun b hb'=>⟨Nat.le_trans hb.size hb'.1,Nat.lt_of_lt_of_le hb'.2 b7.size⟩);obtain ⟨a7,c7,rfl⟩:=f7.form;clear e0 heq f6 f7 HT P;generalize zAC c x5 y=z at *;generalize hzl:z.length=zl at *;have HZN:=zJh hzl;clear hzl;have bb:Below w7.heap.size w7 (w7.alloc (.cells #[.slice a7 zl c7] 25)):=(Below.refl _ _).alloc (zJm _) _;have hcn:(w7.alloc (.cells #[.slice a7 zl c7] 25)).cell? ⟨w7.heap.size,0,none⟩=some (.slice a7 zl c7):=by go_simp
     have hln:(acc++[x5]).length+1≤67108864:=by omega
     go_wp2_with (at_builtin; go_must (refine zA2 (W:=w) rfl _ _ rfl rfl (hf7.grow bb) (zAA.step hb7 bb) rfl hcn ((hr7.below bb).mono (fun b hb'=>⟨hb'.1,Nat.lt_of_lt_of_le hb'.2 bb.size⟩)) hln ?_))
     intro v8 w8 f8 b8 _;clear bb hcn hln hr7 hf7;obtain ⟨a8,c8,rfl⟩:=f8.form;go_wp2_with fail
     go_roundw
     case rel=>exact ⟨f,acc++[x5],z,_,rfl,by rw [List.append_assoc]; exact f8,e1,HNI,by rw [HZN.out]; exact h15,hl2,by rw [HZN.out]; omega,b8⟩
     case measure=>simp [lenV]; omega
   ·rw [decide_eq_false h15];have e1:Hid (acc++[x5]=res):=zJh (by
     rw [<-HK.out,zBs hx,zE4 (by omega:15<(zAC c x5 y).length)];split <;> rfl)
    clear f6;go_wp2_with fail
    go_ret
    exact ⟨_,rfl,by rw [<-e1.out]; exact hf6,hb6⟩
theorem zEF {S S1:Nat→Prop} {u v1:Value} {c:List (List Int)} {a:List Int} {w:World} (h:RII S w u c) (h1:RI S1 w v1 a) (hl:total c≤16777216) (la:a.length≤16777216) :
  Calls Try.prog 30 #[u,v1] w fun e w'=>∃r,e=.returned r∧FR (New w w') w' r (powV c a)∧Below w.heap.size w w':=by
 have HV:Hid (powV c a=if isWd c a=true then powL c (zAB c a) 17 (zAB c a) else []):=zJh rfl;have HPA:Hid (isWd c a=true→WdP c a∧Nice c (zAB c a)):=zJh (fun h=>⟨wd_p h,(zAV (wd_p h).cart (wd_p h).lets (by have:=(wd_p h).len; omega)).1⟩);have HS:Hid (isWd c a=true→∀x,Nice c x→x.length≤15→PowS c a (zAB c a) x):=zJh (fun h x hx hl=>zHx (wd_p h) h hx hl);generalize powV c a=res at *;go_enter Try.func30,Try.ntmps30
 go_wp2_with fail
 obtain ⟨w1,hw1⟩:∃w1,w1=w.alloc (.cells #[] 25):=⟨_,rfl⟩;obtain ⟨f1,b1⟩:=FR.empty_of (Below.refl _ w) hw1;rw [<-hw1];clear hw1;refine (zAe (h.below b1) (h1.below b1) hl la).mono ?_;rintro e w2 ⟨r2,rfl,g2,bq⟩;have f2:=f1.grow bq;have b2:=zAA.step b1 bq;have g2:FI (New w w2) w2 r2 (zBc c a):=g2.mono (fun b hb=>⟨Nat.le_trans b1.size hb.1,hb.2⟩);clear bq f1 b1;cases hA:isWd c a
 ·have e0:Hid ([]=res):=zJh (by rw [HV.out,hA]; rfl);obtain ⟨ag,cg,rfl⟩:=g2.form;go_wp2_with fail
  go_loopw [5,6,8] (fun oo xx nn wr=>oo=.slice (some ⟨w.heap.size,0,none⟩) 0 0∧nn=.int .i64 0∧wr=w2) (fun _ _ _ _=>0)
  case atStart=>exact ⟨rfl,rfl,rfl⟩
  case round =>
   obtain ⟨rfl,rfl,rfl⟩:=hrel;go_wp2_with fail
   go_ret
   exact ⟨_,rfl,by rw [<-e0.out]; exact f2,b2⟩
 ·have PA:=zJh (HPA.out hA);have HS2:=zJh (HS.out hA);have HV2:Hid (([]:List (List Int))++powL c (zAB c a) 17 (zAB c a)=res):=zJh (by rw [HV.out,if_pos hA]; rfl);have hn15:=PA.out.1.nn;have HNF:=zJh (fun (wv:World) (hb:Below w.heap.size w wv)=>(hA ▸ zAe (h.below hb) (h1.below hb) hl la:Calls Try.prog 17 #[u,v1] wv fun e w'=>∃r,e=.returned (.tuple #[r,.bool true])∧FI (New wv w') w' r (zBc c a)∧Below wv.heap.size wv w'));have HNY:Hid (zBc c a=zAB c a):=zJh (zBE hA);rw [zBE hA] at g2;have HN0:=zJh PA.out.2;have HYL:=zJh PA.out.1.nl;clear hA HPA HS HV;generalize hy:zAB c a=y at *;clear hy;go_wp2_with fail
  go_loopw [5,6,8] (fun oo xx nn wr=>∃(k f:Nat) (acc:List (List Int)) (x:List Int) (vo vx:Value),vo=oo∧vx=xx∧nn=.int .i64 k∧k+f=17∧FR (New w wr) wr vo acc∧FI (New w wr) wr vx x∧Hid (acc++powL c y f x=res)∧acc.length=k∧17≤f+x.length∧x.length≤30∧Hid (x.length≤15→Nice c x)∧Below w.heap.size w wr) (fun _ _ nn _=>18-(intOf nn).toNat)
  case atStart=>exact ⟨0,17,[],y,_,_,rfl,rfl,rfl,rfl,f2,g2,HV2,rfl,by omega,by omega,zJh (fun _=>HN0.out),b2⟩
  case round =>
   clear f2 g2 b2 HV2 HN0;obtain ⟨k,f,acc,x,vo,vx,rfl,rfl,rfl,hkf,hf,hg,HK,hak,hfx,hx30,HX,hb⟩:=hrel;obtain ⟨ax,cx,rfl⟩:=hg.form;by_cases h15:x.length≤15
   ·obtain ⟨f,rfl⟩:∃g,f=g+1:=⟨f-1,by omega⟩;have P:=zJh (HS2.out x (HX.out h15) h15);have HXN:=zJh (HX.out h15);have i1:(k:Int)≤15:=by omega
    have i2:(x.length:Int)≤15:=by omega
    have bb:Below wr.heap.size wr (wr.alloc (.cells #[.slice ax x.length cx] 25)):=(Below.refl _ _).alloc (zJm _) _;have hcn:(wr.alloc (.cells #[.slice ax x.length cx] 25)).cell? ⟨wr.heap.size,0,none⟩=some (.slice ax x.length cx):=by go_simp
    have hln:acc.length+1≤67108864:=by omega
    have hgr:=hg.reads;go_wp2_with (at_builtin; go_must (refine zA2 (W:=w) rfl _ _ rfl rfl (hf.grow bb) (zAA.step hb bb) rfl hcn ((hgr.below bb).mono (fun b hb'=>⟨hb'.1,Nat.lt_of_lt_of_le hb'.2 bb.size⟩)) hln ?_))
    intro v4 w4 f4 b4 hg4;have g4:FI (New w w4) w4 (.slice ax x.length cx) x:=(hg.keep (fun b hb'=>by
     have hlt:=(hg.2 b hb').2;refine (hg4.block b (Nat.lt_of_lt_of_le hlt bb.size) (fun e=>?_)).trans (bb.block b hlt);obtain ⟨c1,t1⟩:=hf.tag e.symm;obtain ⟨c2,t2⟩:=zAp hg.1 hb';rw [t1] at t2;simp at t2)).mono (fun b hb'=>⟨hb'.1,Nat.lt_of_lt_of_le hb'.2 (Nat.le_trans bb.size hg4.size)⟩)
    clear bb hcn hln hgr hf hg hb hg4;go_wp2_with fail
    refine (HNF.out w4 b4).mono ?_;rintro e w5 ⟨r5,rfl,f5,b5⟩;rw [HNY.out] at f5;have g5:=g4.grow b5;have o5:=f4.grow b5;have b05:=zAA.step b4 b5;clear f4 g4 b4 b5;go_wp2_with fail
    refine (zCA (W:=w) (h.below b05) g5 f5.reads b05 PA.out.1.cart hl HXN.out.lets h15 hn15 HYL.out).mono ?_;rintro e w6 ⟨r6,rfl,f6,b06,b56⟩;have g6:=g5.below b56;have o6:=o5.grow b56;clear g5 o5 f5 b05 b56;have hz30:=P.out.le;have HT:=zJh P.out.two;have HNI:=zJh P.out.nice;go_wp2_with fail
    refine (zBh f6.reads g6.reads (by omega) (by omega)).mono ?_;rintro e w7 ⟨rfl,hw7⟩;have b7:=zAH hw7;have o7:=o6.grow b7;have f7:=f6.grow b7;have b07:=zAA.step b06 b7;clear hw7 g6 o6 f6 b06 b7;by_cases heq:zAC c x y=x
    ·have e0:eqL (zAC c x y) x=true:=by rw [heq]; exact zEm _
     have e1:Hid (acc++[x]=res):=zJh (by rw [<-HK.out,zBs h15,if_pos heq]);rw [e0];clear f7;go_wp2_with fail
     go_ret
     exact ⟨_,rfl,by rw [<-e1.out]; exact o7,b07⟩
    ·have e0:eqL (zAC c x y) x=false:=by unfold eqL; rw [decide_eq_false_iff_not]; exact heq
     have e1:Hid ((acc++[x])++powL c y f (zAC c x y)=res):=zJh (by rw [<-HK.out,zBs h15,if_neg heq]; simp);have hgr:x.length<(zAC c x y).length:=by
      rcases HT.out with h | h
      ·exact absurd h heq
      ·exact h
     rw [e0];clear e0 heq HT P;generalize zAC c x y=z at *;go_wp2_with fail
     go_roundw
     case rel=>exact ⟨k+1,f,acc++[x],z,_,_,rfl,rfl,by go_num,by omega,o7,f7,e1,by simp; omega,by omega,hz30,HNI,b07⟩
     case measure=>simp [intOf]; omega
   ·have e0:Hid (acc=res):=zJh (by rw [<-HK.out,zE4 (by omega),List.append_nil]);have i2:¬(x.length:Int)≤15:=by omega
    by_cases hk15:k≤15
    ·have i1:(k:Int)≤15:=by omega
     go_wp2_with fail
     go_ret
     exact ⟨_,rfl,by rw [<-e0.out]; exact hf,hb⟩
    ·have i1:¬(k:Int)≤15:=by omega
     go_wp2_with fail
     go_ret
     exact ⟨_,rfl,by rw [<-e0.out]; exact hf,hb⟩
end Go.Proofs.Ytlchafedbnihoaa
