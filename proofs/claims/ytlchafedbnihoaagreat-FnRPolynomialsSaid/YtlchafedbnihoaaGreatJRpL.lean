/- What the law of the R-polynomials says of them: degree, mirror, inverses. Plain. -/
import Derived.Test.YtlchafedbnihoaaGreatJGHopH
import Derived.Test.YtlchafedbnihoaaGreatJGRTb
namespace Go.Proofs.YtlchafedbnihoaaGreat
open Go.RowKit
open Cox (Fw EqL Inv Rdd Eqv lop rop lops rops dop dops d0 sh shN Ld Rd)
set_option maxRecDepth 20000
theorem zGx {c:List (List Int)} (hc:CartanP c):∀{v x:List Int},Lets c.length v→Lets c.length x→x.length+v.length≤28→∀k,wrap64 (num (rI c (zAC c x) v) k)=wrap64 (dops (ent c) (toN v) (d0 c.length (ent c)) (toN x) k)
 | [],x,_,hx,hl,k=>by
  obtain ⟨a1,a2⟩:=zBx hc hx (by simp at hl; omega);have key:zAH (zAC c x)=none↔Eqv c.length (ent c) (toN x) []:=by
   constructor
   ·intro h;have e:=(zAV hc hx (by simp at hl; omega)).ones hc h;exact Cox.faithful hc.car (zAx hx) Cox.nil_lets (fun k hk=>by rw [<-a2 k hk,e]; simp [num,Cox.aW,Cox.one,hk])
   ·intro h;refine zCX.2 fun y hy=>?_;obtain ⟨j,hj,rfl⟩:=zEL hy;rw [a2 j (by omega),h.m];simp [Cox.aW,Cox.one]
  show _=wrap64 (d0 c.length (ent c) (toN x) k);rw [zFF];by_cases h:zAH (zAC c x)=none
  ·rw [if_pos h,Cox.d0_yes (key.1 h)];cases k <;> simp [num]
  ·rw [if_neg h,Cox.d0_no (mt key.2 h)];simp [num]
 | s::v,x,hv,hx,hl,k=>by
  have hs:=hv s (by simp);have hv':Lets c.length v:=fun y hy=>hv y (by simp [hy]);have hsx:Lets c.length (s::x):=fun y hy=>by
   rcases List.mem_cons.1 hy with rfl | hy
   ·exact hs
   ·exact hx y hy
  simp at hl;obtain ⟨a1,a2⟩:=zBx hc hx (by omega);have ih1:=zGx hc hv' hsx (by simp; omega);have ih2:=zGx hc hv' hx (by omega);have hd:num (zAC c x) s.toNat<0↔Ld (ent c) s.toNat (toN x):=by unfold Cox.Ld; rw [a2 s.toNat (by omega)]
  show _=wrap64 (dop (ent c) s.toNat (dops (ent c) (toN v) (d0 c.length (ent c))) (toN x) k);unfold rI;by_cases d:Ld (ent c) s.toNat (toN x)
  ·rw [if_pos (hd.2 d),Cox.dop_yes d];exact ih1 k
  ·rw [if_neg (mt hd.1 d),Cox.dop_no d];have e1:wrap64 (sh (num (rI c (refl c s.toNat (zAC c x)) v)) k)=wrap64 (sh (dops (ent c) (toN v) (d0 c.length (ent c)) (s.toNat::toN x)) k):=zGm ih1 k;have e2:=zGm ih2 k;have e3:=ih2 k;have e4:=zF4 (shI (rI c (zAC c x) v)) (rI c (zAC c x) v) k;rw [zFY] at e4;rw [zEd,zFY];show _=wrap64 (sh (dops (ent c) (toN v) (d0 c.length (ent c)) (s.toNat::toN x)) k+(sh (dops (ent c) (toN v) (d0 c.length (ent c)) (toN x)) k-dops (ent c) (toN v) (d0 c.length (ent c)) (toN x) k));generalize dops (ent c) (toN v) (d0 c.length (ent c)) (toN x) k=b1 at *;generalize sh (dops (ent c) (toN v) (d0 c.length (ent c)) (toN x)) k=b2 at *;generalize sh (dops (ent c) (toN v) (d0 c.length (ent c)) (s.toNat::toN x)) k=b3 at *;unfold wrap64 at *; omega
structure RpE (c:List (List Int)) (u v:List Int):Prop where
 car:CartanP c
 lu:Lets c.length u
 lv:Lets c.length v
 u15:u.length≤15
 v15:v.length≤15
 nu:Nice c (zAB c u)
 nv:Nice c (zAB c v)
 eu:Eqv c.length (ent c) (toN (zAB c u)) (toN u)
 ev:Eqv c.length (ent c) (toN (zAB c v)) (toN v)
 le:(zAB c u).length≤15
 lf:(zAB c v).length≤10
 val:∀k,wrap64 (num (rp c u v) k)=wrap64 (dops (ent c) (toN (zAB c v)) (d0 c.length (ent c)) (toN (zAB c u)) k)
theorem zEj {c:List (List Int)} {u v:List Int} (h:rpOk c u v=true):RpE c u v:=by
 have h':=h;unfold rpOk at h;simp only [Bool.and_eq_true,decide_eq_true_eq] at h;obtain ⟨⟨h1,h2⟩,h3⟩:=h;obtain ⟨a1,a2,a3⟩:=zAT h1;obtain ⟨b1,b2,b3⟩:=zAT h2;have hc:=zAY.1 a1;obtain ⟨n1,n2⟩:=zBo hc a3 (by omega);obtain ⟨n3,n4⟩:=zBo hc b3 (by omega);have le:=zAj hc a3 (by omega);refine ⟨hc,a3,b3,a2,b2,n1,n3,n2,n4,by omega,h3,fun k=>?_⟩;have e:zAC c (zAB c u)=zAC c u:=zBH hc _ (zAV hc a3 (by omega)) (by omega);have:=zGx hc n3.lets n1.lets (by omega) k;rw [e] at this;unfold rp;rw [h',if_pos rfl];exact this
theorem zL5 {c:List (List Int)} {u v:List Int} (h:rpOk c u v=true):decide (0<(rp c u v).length)=bel c (zAC c u) (zAB c v) ∧
  (0<(rp c u v).length→(zAB c u).length≤(zAB c v).length∧(rp c u v).length+(zAB c u).length=(zAB c v).length+1∧num (rp c u v) ((zAB c v).length-(zAB c u).length)=1):=by
 have E:=zEj h;obtain ⟨_,t2,t3⟩:=zDy c u v;have hc:=E.car;have e:zAC c (zAB c u)=zAC c u:=zBH hc _ (zAV hc E.lu (by have:=E.u15; omega)) (by have:=E.u15; omega);have hp:bel c (zAC c u) (zAB c v)=true↔Cox.Part c.length (ent c) (Cox.aW (ent c) (toN (zAB c u)) Cox.one) (toN (zAB c v)):=by
  rw [zDi hc _ (zAV hc E.lu (by have:=E.u15; omega)) (by have:=E.u15; omega) (by have:=E.lf; omega) E.nv.lets];refine zEe fun k hk=>?_;rw [<-e];exact (zBx hc E.nu.lets (by have:=E.le; omega)).2 k hk
 obtain ⟨d1,d2⟩:=Cox.dops_deg hc.car (zAx E.nv.lets) (E.nu.red hc);have lU:(toN (zAB c u)).length=(zAB c u).length:=by simp [toN]
 have lV:(toN (zAB c v)).length=(zAB c v).length:=by simp [toN]
 rw [lU,lV] at d2;have hval:=E.val;generalize rp c u v=q at *;by_cases hb:bel c (zAC c u) (zAB c v)=true
 ·obtain ⟨d3,d4⟩:=d2 (hp.1 hb);have at1:num q ((zAB c v).length-(zAB c u).length)=1:=by
   have:=hval ((zAB c v).length-(zAB c u).length);rw [d4 _ (by omega),if_pos (by omega),zBa (t3.num _)] at this;rw [this]; simp [wrap64]
  have at0:∀k,(zAB c v).length-(zAB c u).length<k→num q k=0:=fun k hk=>by
   have:=hval k;rw [d4 _ (by omega),if_neg (by omega),zBa (t3.num _)] at this;rw [this]; simp [wrap64]
  have hl:(zAB c v).length-(zAB c u).length<q.length:=by
   refine Nat.lt_of_not_le fun hn=>?_;rw [zAu hn] at at1;omega
  have hl2:q.length=(zAB c v).length-(zAB c u).length+1:=by
   rcases t2 with t2 | t2
   ·rw [t2] at hl; simp at hl
   ·refine Nat.le_antisymm (Nat.le_of_not_lt fun hn=>t2 (at0 _ (by omega))) (by omega)
  refine ⟨?_,fun _=>⟨d3,by omega,at1⟩⟩;rw [hb,decide_eq_true (by omega)]
 ·have z:=d1 (mt hp.2 hb);have hq:q=[]:=zDE t2 (.inl rfl) fun k=>by
   have:=hval k;rw [z k,zBa (t3.num _)] at this;rw [this,zAu (by simp)]; simp [wrap64]
  subst hq;refine ⟨?_,fun h=>by simp at h⟩;rw [Bool.eq_false_iff.2 hb]; rfl
theorem zJv (q:List Int) (k:Nat):num q.reverse k=if k<q.length then num q (q.length-1-k) else 0:=by
 by_cases h:k<q.length
 ·rw [if_pos h];unfold num;rw [List.getElem?_reverse h]
 ·rw [if_neg h];exact zAu (by simp; omega)
theorem zP1 {c:List (List Int)} {u v:List Int} (h:rpOk c u v=true) (h0:0<(rp c u v).length) :
  trim (rp c u v).reverse=trim (mulP (rp c u v) [if (((zAB c v).length:Int)-(zAB c u).length) % 2=0 then 1 else -1]):=by
 have E:=zEj h;obtain ⟨t1,t2,t3⟩:=zDy c u v;obtain ⟨_,hd⟩:=zL5 h;obtain ⟨d1,d2,_⟩:=hd h0;have hm:=Cox.dops_mir E.car.car (zAx E.nv.lets) (E.nu.red E.car);have lU:(toN (zAB c u)).length=(zAB c u).length:=by simp [toN]
 have lV:(toN (zAB c v)).length=(zAB c v).length:=by simp [toN]
 rw [lU,lV] at hm;have hval:=E.val;generalize rp c u v=q at *;generalize hr:dops (ent c) (toN (zAB c v)) (d0 c.length (ent c)) (toN (zAB c u))=r at *;generalize (zAB c v).length=nv at *;generalize (zAB c u).length=nu at *;obtain ⟨s,hs⟩:∃s:Int,s=if ((nv:Int)-nu) % 2=0 then 1 else -1:=⟨_,rfl⟩
 rw [<-hs];have hin:InI q.reverse:=fun x hx=>t3 x (by simpa using hx);have hmi:=(zCp q [s]).2.1;refine zDE (zBI _) (zBI _) fun k=>?_;rw [zBC,zBC];have e1:wrap64 (num (mulP q [s]) k)=wrap64 (s*num q k):=by
  rw [zIf q [s] (by simp; omega)];show wrap64 (s*num q k+sh (fun _=>0) k)=_;rw [zFH]; simp
 have e2:wrap64 (num q.reverse k)=wrap64 (s*num q k):=by
  rw [zJv];by_cases hk:k<q.length
  ·rw [if_pos hk];have a1:=hval (q.length-1-k);have a2:=hval k;have a3:=hm (k:Int);have a4:Cox.rz r ((nv:Int)-nu-k)=r (q.length-1-k):=by
    unfold Cox.rz;rw [if_neg (by omega)];congr 1;omega
   have a5:Cox.rz r (k:Int)=r k:=by
    unfold Cox.rz;rw [if_neg (by omega)];rfl
   rw [a4,a5] at a3;rw [a1,a3,hs];by_cases hp:((nv:Int)-nu) % 2=0
   ·rw [if_pos hp,if_pos hp,Int.one_mul]; exact a2.symm
   ·rw [if_neg hp,if_neg hp,Int.neg_mul,Int.one_mul];generalize num q k=x at *;generalize r k=y at *;unfold wrap64 at *; omega
  ·rw [if_neg hk,zAu (l:=q) (by omega)]; simp
 rw [<-zBa (hin.num k),e2,<-e1,zBa (hmi.num k)]
theorem zGn {c:List (List Int)} {l:List Int} (h:isWd c l=true):isWd c l.reverse=true:=by
 obtain ⟨b1,b2,b3⟩:=zAT h;have lr:Lets c.length l.reverse:=fun x hx=>b3 x (by simpa using hx);unfold isWd;rw [b1,decide_eq_true (show l.reverse.length≤15 by simpa using b2),zDg.2 fun x hx=>by have:=lr x hx; unfold ptB; exact zFU (by omega)];rfl
theorem zPG (l:List Int):toN l.reverse=(toN l).reverse:=by unfold toN; rw [List.map_reverse]
theorem zIm {c:List (List Int)} {l:List Int} (hc:CartanP c) (hl:Lets c.length l) (h15:l.length≤15):Nice c (zAB c l.reverse)∧Eqv c.length (ent c) (toN (zAB c l.reverse)) (toN (zAB c l)).reverse∧(zAB c l.reverse).length=(zAB c l).length:=by
 have lr:Lets c.length l.reverse:=fun x hx=>hl x (by simpa using hx);obtain ⟨n1,n2⟩:=zBo hc hl (by omega);obtain ⟨n3,n4⟩:=zBo hc lr (by simp; omega);rw [zPG] at n4;have e:Eqv c.length (ent c) (toN (zAB c l.reverse)) (toN (zAB c l)).reverse:=n4.trans (n2.rev hc.car (zAx n1.lets) (zAx hl)).symm;refine ⟨n3,e,?_⟩;have:=(n3.red hc).len ((n1.red hc).rev hc.car) e;simpa [toN] using this
theorem zP2 {c:List (List Int)} {u v:List Int} (h:rpOk c u v=true):rpOk c u.reverse v.reverse=true∧rp c u.reverse v.reverse=rp c u v:=by
 have E:=zEj h;have hc:=E.car;have h':=h;unfold rpOk at h;simp only [Bool.and_eq_true,decide_eq_true_eq] at h;obtain ⟨⟨h1,h2⟩,h3⟩:=h;obtain ⟨m1,m2,m3⟩:=zIm hc E.lv E.v15;obtain ⟨m4,m5,_⟩:=zIm hc E.lu E.u15;have hr:rpOk c u.reverse v.reverse=true:=by
  unfold rpOk;rw [zGn h1,zGn h2,m3,decide_eq_true h3]; rfl
 refine ⟨hr,?_⟩;have E2:=zEj hr;obtain ⟨_,t2,t3⟩:=zDy c u v;obtain ⟨_,t5,t6⟩:=zDy c u.reverse v.reverse;refine zDE t5 t2 fun k=>?_;have a1:=E2.val k;have ru:=(E.nu.red hc);have rv:=(E.nv.red hc);have i1:=(Cox.d0_inv (n:=c.length) (c:=ent c)).dops (rv.rev hc.car).1;rw [Cox.dops_same hc.car (m1.red hc) (rv.rev hc.car) m2 _ (zAx m4.lets),i1 _ _ (zAx m4.lets) (Cox.lets_rev ru.1) m5,Cox.dops_rev hc.car rv.1 ru.1,<-E.val k,zBa (t3.num k),zBa (t6.num k)] at a1;exact a1
def zBL (t:List Int) (n:Nat):Nat→List Int
 | 0=>List.replicate (n+1) 0
 | k+1=>(zBL t n k).set (n-k) (num t k)
theorem zBz (t:List Int) (n:Nat):∀k,(zBL t n k).length=n+1
 | 0=>by simp [zBL]
 | k+1=>by unfold zBL; rw [List.length_set,zBz t n k]
theorem zHe (t:List Int) (n:Nat) (j:Nat):∀k,k≤n+1→num (zBL t n k) j=if j≤n∧n-j<k then num t (n-j) else 0
 | 0,_=>by
  rw [if_neg (by omega)];unfold zBL num;rw [List.getElem?_replicate];split <;> rfl
 | k+1,hk=>by
  unfold zBL;rw [zJw,zBz,zHe t n j k (by omega)];by_cases h:n-k=j
  ·rw [if_pos (by omega),if_pos (by omega),show n-j=k by omega]
  ·rw [if_neg (by omega)];by_cases h2:j≤n∧n-j<k
   ·rw [if_pos h2,if_pos (by omega)]
   ·rw [if_neg h2,if_neg (by omega)]
theorem zGh {t:List Int} {n:Nat} (h:t.length=n+1):zBL t n t.length=t.reverse:=by
 refine List.ext_getElem (by rw [zBz]; simp [h]) fun k h1 h2=>?_;have e1:=zHe t n k t.length (by omega);have e2:=zJv t k;rw [zBz] at h1;rw [if_pos (by omega)] at e1 e2;have e3:num (zBL t n t.length) k=num t.reverse k:=by rw [e1,e2]; congr 1; omega
 unfold num at e3;rw [zQZ (by rw [zBz]; omega),zQZ h2] at e3;simpa using e3
theorem zCa (x:Int):∀(p:List Int),zAJ x (trim p)=zAJ x p:=by
 have key:∀p q:List Int,(∀k,num p k=num q k)→zAJ x p=zAJ x q:=fun p=>by
  induction p with
  | nil =>
   intro q h
   induction q with
   | nil=>rfl
   | cons a q ih =>
    have h0:a=0:=by have:=h 0; simpa [num] using this.symm
    have h1:∀k,num [] k=num q k:=fun k=>by have:=h (k+1); simpa [num] using this
    show (0:Int)=wrap64 (wrap64 (zAJ x q*x)+a);rw [<-ih h1,h0]; simp [zAJ,wrap64]
  | cons a p ih =>
   intro q h;cases q with
   | nil =>
    have h0:a=0:=by have:=h 0; simpa [num] using this
    have h1:∀k,num p k=num [] k:=fun k=>by have:=h (k+1); simpa [num] using this
    show wrap64 (wrap64 (zAJ x p*x)+a)=0;rw [ih [] h1,h0]; simp [zAJ,wrap64]
   | cons b q =>
    have h0:a=b:=by have:=h 0; simpa [num] using this
    have h1:∀k,num p k=num q k:=fun k=>by have:=h (k+1); simpa [num] using this
    show wrap64 (wrap64 (zAJ x p*x)+a)=wrap64 (wrap64 (zAJ x q*x)+b);rw [ih q h1,h0]
 exact fun p=>key _ _ (zBC p)
theorem zIH (x:Int) (p:List Int):wrap64 (zAJ x (shI p))=wrap64 (zAJ x p*x):=by
 unfold shI;by_cases h:trim p=[]
 ·rw [if_pos h,<-zCa x p,h]; simp [zAJ]
 ·rw [if_neg h];show wrap64 (wrap64 (wrap64 (zAJ x (trim p)*x)+0))=_;rw [zCa];generalize zAJ x p*x=y;unfold wrap64; omega
theorem zHL (x:Int) (f:Nat→Int) (g h:Nat→Int) (e:∀k,wrap64 (f k)=wrap64 (g k+h k)):∀n s,wrap64 (zAJ x ((List.range' s n).map f))=wrap64 (zAJ x ((List.range' s n).map g)+zAJ x ((List.range' s n).map h))
 | 0,s=>by simp [zAJ]
 | n+1,s=>by
  have ih:=zHL x f g h e n (s+1);have hh:=e s;simp only [List.range'_succ,List.map_cons,zAJ];generalize zAJ x ((List.range' (s+1) n).map f)=A at *;generalize zAJ x ((List.range' (s+1) n).map g)=B at *;generalize zAJ x ((List.range' (s+1) n).map h)=C at *;obtain ⟨z,hz⟩:∃z,A=B+C+18446744073709551616*z:=⟨(A-B-C) / 18446744073709551616,by unfold wrap64 at ih; omega⟩;have e1:A*x=B*x+C*x+18446744073709551616*(z*x):=by rw [hz,Int.add_mul,Int.add_mul,Int.mul_assoc]
  rw [e1];generalize B*x=b at *;generalize C*x=c at *;generalize z*x=y at *;unfold wrap64 at *; omega
theorem zHK (x:Int) (p:List Int) (n:Nat) (hn:p.length≤n):zAJ x ((List.range n).map (num p))=zAJ x p:=by
 have e:trim ((List.range n).map (num p))=trim p:=zDE (zBI _) (zBI _) fun k=>by
  rw [zBC,zBC];by_cases h:k<n
  ·unfold num;rw [List.getElem?_map,List.getElem?_range h]; rfl
  ·rw [zAu (by simp; omega),zAu (by omega)]
 rw [<-zCa,e,zCa]
theorem zHJ (x:Int) (p q:List Int):wrap64 (zAJ x (addP p q))=wrap64 (zAJ x p+zAJ x q):=by
 unfold addP;rw [zCa];unfold zA7;rw [List.range_eq_range'];rw [zHL x (fun k=>wrap64 (num p k+num q k)) (num p) (num q) (fun k=>by unfold wrap64; omega),<-List.range_eq_range',zHK x p _ (by omega),zHK x q _ (by omega)]
theorem zLH (x:Int) (p q:List Int):wrap64 (zAJ x (subP p q))=wrap64 (zAJ x p-zAJ x q):=by
 have h1:=zHJ x p (negL q);have h2:∀q:List Int,wrap64 (zAJ x (negL q))=wrap64 (- zAJ x q):=fun q=>by
  induction q with
  | nil=>simp [negL,zAJ]
  | cons a q ih =>
   show wrap64 (wrap64 (wrap64 (zAJ x (negL q)*x)+wrap64 (-a)))=wrap64 (-(wrap64 (wrap64 (zAJ x q*x)+a)));generalize zAJ x (negL q)=A at *;generalize zAJ x q=B at *;obtain ⟨z,hz⟩:∃z,A = -B+18446744073709551616*z:=⟨(A+B) / 18446744073709551616,by unfold wrap64 at ih; omega⟩;have e1:A*x = -(B*x)+18446744073709551616*(z*x):=by rw [hz,Int.add_mul,Int.neg_mul,Int.mul_assoc]
   rw [e1];generalize B*x=b at *;generalize z*x=y at *;unfold wrap64 at *; omega
 have h3:=h2 q;unfold subP;unfold wrap64 at *; omega
theorem zF8 {x:Int} (hx:2≤x∧x≤9) (c:List (List Int)):∀(v mu:List Int),v.length≤10→0≤zAJ x (rI c mu v)∧zAJ x (rI c mu v)≤17 ^ v.length
 | [],mu,_=>by
  rw [zFF];split <;> simp [zAJ,wrap64]
 | i::v,mu,hl=>by
  simp at hl;have h1:=zF8 hx c v (refl c i.toNat mu) (by omega);have h2:=zF8 hx c v mu (by omega);have hp:(17:Int) ^ (i::v).length=17 ^ v.length*17:=by rw [List.length_cons,Int.pow_succ]
  have hb:(17:Int) ^ v.length≤17 ^ 9:=by
   have h3:(17:Nat) ^ v.length≤17 ^ 9:=Nat.pow_le_pow_right (by omega) (by omega);have h4:((17 ^ v.length:Nat):Int)≤((17 ^ 9:Nat):Int):=by exact_mod_cast h3
   simpa using h4
  have hp0:(0:Int)≤17 ^ v.length:=by omega
  rw [hp];unfold rI;split
  ·omega
  ·have e1:=zHJ x (shI (rI c (refl c i.toNat mu) v)) (subP (shI (rI c mu v)) (rI c mu v));have e2:=zIH x (rI c (refl c i.toNat mu) v);have e3:=zLH x (shI (rI c mu v)) (rI c mu v);have e4:=zIH x (rI c mu v);have wr:∀p:List Int,zAJ x p=wrap64 (zAJ x p):=fun p=>by
    cases p with
    | nil=>simp [zAJ,wrap64]
    | cons a p=>show wrap64 _=wrap64 (wrap64 _); generalize wrap64 (zAJ x p*x)+a=y; unfold wrap64; omega
   have e5:=wr (addP (shI (rI c (refl c i.toNat mu) v)) (subP (shI (rI c mu v)) (rI c mu v)));generalize zAJ x (rI c (refl c i.toNat mu) v)=A at *;generalize zAJ x (rI c mu v)=B at *;generalize (17:Int) ^ v.length=M at *;rw [e5,e1];have hA:=Int.mul_le_mul h1.2 hx.2 (by omega) hp0;have hB:=Int.mul_le_mul h2.2 (show x-1≤8 by omega) (by omega) hp0;have hBx:B*x=B*(x-1)+B:=by rw [Int.mul_sub]; omega
   have hA0:=Int.mul_nonneg h1.1 (show 0≤x by omega);have hB1:B*2≤B*x:=Int.mul_le_mul_of_nonneg_left hx.1 h2.1;generalize B*(x-1)=b' at *;generalize A*x=a at *;generalize B*x=b at *;have hM:M≤118587876497:=by simpa using hb
   have e6:wrap64 (zAJ x (shI (rI c (refl c i.toNat mu) v))+zAJ x (subP (shI (rI c mu v)) (rI c mu v)))=a+(b-B):=by
    generalize zAJ x (shI (rI c (refl c i.toNat mu) v))=y1 at *;generalize zAJ x (subP (shI (rI c mu v)) (rI c mu v))=y2 at *;generalize zAJ x (shI (rI c mu v))=y3 at *;have:-9223372036854775808≤a+(b-B)∧a+(b-B)≤9223372036854775807:=by omega
    unfold wrap64 at *; omega
   rw [e6];omega
theorem zNF (c:List (List Int)) (u v:List Int) (q:Int):-1≤rich c u v q:=by
 unfold rich;split
 ·rename_i h
  simp only [Bool.and_eq_true] at h;obtain ⟨h1,h2⟩:=h;have hq:2≤q∧q≤9:=by unfold inR at h2; simpa using h2
  have E:=zEj h1;unfold rp;rw [h1,if_pos rfl];have:=zF8 hq c (zAB c v) (zAC c u) E.lf;omega
 ·omega
theorem zQK {n:Nat} {c:Nat→Nat→Int}:d0 n c=dl n c []:=funext fun w=>by
 by_cases h:Eqv n c w []
 ·rw [zEt h.symm]; funext k; exact Cox.d0_yes h k
 ·rw [zDs fun e=>h e.symm]; funext k; exact Cox.d0_no h k
theorem zLZ {c:List (List Int)} {l:List Int} (h:lwOk c l=true):(∀x,x∈lwR c l↔Blw c (zAB c l) x)∧SrtE (lwR c l):=by
 have hw:=zB8 h;obtain ⟨h1,h2,h3⟩:=zAT hw;have hc:=zAY.1 h1;have hn:=(zBl hc h3 (by omega)).1;have hs:=zEI hc hn;unfold lwOk lwQ at h;rw [hw,if_pos rfl] at h;unfold lwR lwQ;rw [hw,if_pos rfl];cases e:lowS c (zAB c l) with
 | none=>rw [e] at h; cases h
 | some q =>
  rw [e] at hs;obtain ⟨a1,a2,a3⟩:=hs;have hm:=(zBs q).2;exact ⟨fun x=>(hm x).trans (a3 x),(zBs q).1⟩
def sgZ (m:Nat) (x:Int):Int:=if m % 2=0 then x else -x
theorem zLI {c:List (List Int)} (hc:CartanP c) (g:List Int→List Int):∀{L:List (List Int)},L.Nodup→(∀x∈L,Nice c x)→∀{y:List Int} {w:List Nat},y∈L→zAp c y w→∀k,fL c (L.map fun x=>(x,g x)) w k=num (g y) k
 | [],_,_,_,_,hy,_,_=>by simp at hy
 | x::L,hd,hn,y,w,hy,hs,k=>by
  show tf c (x,g x) w k+fL c (L.map fun x=>(x,g x)) w k=_;obtain ⟨d1,d2⟩:=List.nodup_cons.1 hd;have hyn:=hn y hy;have same:∀z∈x::L,zAp c z w→z=y:=fun z hz h=>((hn z hz).same hc hyn).1 (fun k hk=>(h k hk).trans (hs k hk).symm);by_cases e:x=y
  ·subst e;have:fL c (L.map fun x=>(x,g x)) w k=0:=zEx (fun t ht h=>by
    obtain ⟨z,hz,rfl⟩:=List.mem_map.1 ht;have:=same z (List.mem_cons_of_mem _ hz) h;subst this;exact d1 hz) k
   rw [this];unfold tf;rw [if_pos hs]; simp
  ·have hy':y∈L:=by
    rcases List.mem_cons.1 hy with h | h
    ·exact absurd h.symm e
    ·exact h
   rw [zLI hc g d2 (fun z hz=>hn z (List.mem_cons_of_mem _ hz)) hy' hs k];unfold tf;rw [if_neg fun h=>e (same x (List.mem_cons_self ..) h)]; simp
theorem zQO {d:List (List Int)} {w:List Int} (h:rtOk d w=true):CgF d.length (fL d (ibT d w (lwR d w))) (fun x k=>sgZ (zAB d w).length (Cox.ep (dops (ent d) (toN (zAB d w)) (d0 d.length (ent d))) x k)):=fun x hx k=>by
 show wrap64 (fL d (ibT d w (lwR d w)) x k)=wrap64 (sgZ (zAB d w).length (Cox.ep (dops (ent d) (toN (zAB d w)) (d0 d.length (ent d))) x k));unfold rtOk at h;simp only [Bool.and_eq_true,decide_eq_true_eq] at h;obtain ⟨h1,h2⟩:=h;have hw:=zB8 h1;obtain ⟨a1,a2,a3⟩:=zAT hw;have hc:=zAY.1 a1;obtain ⟨n1,n2⟩:=zBo hc a3 (by omega);obtain ⟨b1,b2⟩:=zLZ h1;have hn:∀y∈lwR d w,Nice d y:=fun y hy=>by
  have:=(zB9 h1).2 y hy;exact ⟨this.1.lets,by have:=this.2; omega,this.1.nf⟩
 have hi:=(Cox.d0_inv (n:=d.length) (c:=ent d)).dops (zAx n1.lets);by_cases hm:∃y∈lwR d w,zAp d y x
 ·obtain ⟨y,hy,hs⟩:=hm;have hyn:=hn y hy;have he:=(same_eqv hc hyn.lets hx).1 hs;have h15:=((zB9 h1).2 y hy).2;have wy:isWd d y=true:=by
   unfold isWd;rw [a1,decide_eq_true h15,zDg.2 fun q hq=>by have:=hyn.lets q hq; unfold ptB; exact zFU (by omega)];rfl
  have hr:rpOk d y w=true:=by unfold rpOk; rw [wy,hw,decide_eq_true h2]; rfl
  have E:=zEj hr;have e1:=zLI hc (ibP d w) (SrtE.nodup b2) hn hy hs k;have e2:fL d (ibT d w (lwR d w)) x k=num (ibP d w y) k:=e1;have e3:=E.val k;rw [hyn.nrm,hi _ _ (zAx hyn.lets) hx he] at e3;have hp:=Cox.parity hc.car (zAx hyn.lets) hx (fun k _=>by rw [he.m]);have hyl:(toN y).length=y.length:=by simp [toN]
  rw [hyl] at hp;rw [e2];unfold ibP sgZ Cox.ep;have e4:=zF4 [] (rp d y w) k;have e5:num ([]:List Int) k=0:=zAu (by simp);rw [e5] at e4;generalize dops (ent d) (toN (zAB d w)) (d0 d.length (ent d)) x k=z at *;by_cases p1:(zAB d w).length % 2=0 <;> by_cases p2:x.length % 2=0
  ·rw [if_pos (show (zAB d w).length % 2=y.length % 2 by omega),if_pos p1,if_pos p2]; exact e3
  ·rw [if_neg (show ¬(zAB d w).length % 2=y.length % 2 by omega),if_pos p1,if_neg p2]; unfold wrap64 at *; omega
  ·rw [if_neg (show ¬(zAB d w).length % 2=y.length % 2 by omega),if_neg p1,if_pos p2]; unfold wrap64 at *; omega
  ·rw [if_pos (show (zAB d w).length % 2=y.length % 2 by omega),if_neg p1,if_neg p2,Int.neg_neg]; exact e3
 ·have z1:fL d (ibT d w (lwR d w)) x k=0:=zEx (fun t ht h=>by
   obtain ⟨z,hz,rfl⟩:=List.mem_map.1 ht;exact hm ⟨z,hz,h⟩) k
  obtain ⟨x0,r0,r1,_⟩:=Cox.exists_red (c:=ent d) _ x (zQd _) hx;have z2:dops (ent d) (toN (zAB d w)) (d0 d.length (ent d)) x k=0:=by
   rw [hi _ _ hx r0.1 r1];refine (Cox.dops_deg hc.car (zAx n1.lets) r0).1 (fun hp=>hm ?_) k;obtain ⟨z,s1,s2⟩:=hp
   -- the part's normal form lies in the list
   obtain ⟨zi,t1,t2⟩:∃zi:List Int,zi.Sublist (zAB d w)∧toN zi=z:=by
    obtain ⟨zi,u1,u2⟩:=List.sublist_map_iff.1 s1;exact ⟨zi,u1,u2.symm⟩
   have lz:Lets d.length zi:=fun q hq=>n1.lets q (t1.subset hq);have lzl:=t1.length_le;obtain ⟨m1,m2⟩:=zBo hc lz (by omega);have e0:zAC d (zAB d zi)=zAC d zi:=zBH hc _ (zAV hc lz (by omega)) (by omega);have nle:=zAj hc lz (by omega);refine ⟨zAB d zi,(b1 _).2 ⟨⟨m1.lets,by omega,m1.nrm⟩,zi,t1,e0.symm⟩,?_⟩;refine (same_eqv hc m1.lets hx).2 (m2.trans ?_);rw [t2];exact (Cox.faithful hc.car (by rw [<-t2]; exact zAx lz) r0.1 s2).trans r1.symm
  rw [z1];unfold sgZ Cox.ep;rw [z2];simp
theorem zOz (n:Nat) (k:Nat):num (zAd [1] n) k=if k=n then 1 else 0:=by
 unfold zAd;rw [if_neg (by simp),zBC];unfold num;by_cases h:k<n
 ·rw [List.getElem?_append_left (by simpa using h),List.getElem?_replicate,if_pos h,if_neg (by omega)]; rfl
 ·rw [List.getElem?_append_right (by simpa using h)];by_cases h2:k=n
  ·subst h2; simp
  ·rw [if_neg h2,List.getElem?_eq_none (by simp; omega)]; rfl
theorem zGl:∀(m:Nat) (r:Nat→Int) (k:Nat),shN m r k=if m≤k then r (k-m) else 0
 | 0,r,k=>by simp [shN]
 | m+1,r,k=>by
  show shN m (sh r) k=_;rw [zGl m (sh r) k];by_cases h:m+1≤k
  ·rw [if_pos (by omega),if_pos h,show k-m=(k-(m+1))+1 by omega]; rfl
  ·rw [if_neg h];by_cases h2:m≤k
   ·rw [if_pos h2,show k-m=0 by omega]; rfl
   ·rw [if_neg h2]
theorem zLo:∀(m:Nat) (r:Nat→Int) (k:Nat),Cox.nsN m r k=sgZ m (shN m r k)
 | 0,r,k=>by simp [Cox.nsN,shN,sgZ]
 | m+1,r,k=>by
  show Cox.nsN m (Cox.ns r) k=sgZ (m+1) (shN m (sh r) k);rw [zLo m (Cox.ns r) k,zGl,zGl];have e:∀j,Cox.ns r j = - sh r j:=fun j=>rfl;rw [e];unfold sgZ;by_cases h:m≤k
  ·rw [if_pos h,if_pos h];by_cases p:m % 2=0
   ·rw [if_pos p,if_neg (by omega)]
   ·rw [if_neg p,if_pos (by omega),Int.neg_neg]
  ·rw [if_neg h,if_neg h];split <;> split <;> rfl
theorem zOw (m:Nat) (x:Int):sgZ m (sgZ m x)=x:=by
 unfold sgZ;split
 ·rfl
 ·rw [Int.neg_neg]
theorem zPo (c:Nat→Nat→Int) (m s:Nat) (f:Fw):lop c s (fun w k=>sgZ m (f w k))=fun w k=>sgZ m (lop c s f w k):=funext fun w=>funext fun k=>by
 unfold sgZ;by_cases p:m % 2=0
 ·simp only [if_pos p]
 ·simp only [if_neg p];unfold lop;by_cases a:Ld c s w
  ·rw [if_pos a,if_pos a]; rcases k with _ | k <;> simp only [sh] <;> omega
  ·rw [if_neg a,if_neg a]; rcases k with _ | k <;> simp only [sh]; rfl
theorem zJs (c:Nat→Nat→Int) (m:Nat) (f:Fw):∀v:List Nat,lops c v (fun w k=>sgZ m (f w k))=fun w k=>sgZ m (lops c v f w k)
 | []=>rfl
 | s::v=>by show lop c s (lops c v _)=_; rw [zJs c m f v,zPo]; rfl
theorem zIQ {c:List (List Int)} (h:isC c=true):isHk c [([],[1])]=true:=by
 have hn:zAB c []=[]:=List.eq_nil_of_length_eq_zero (by have:=zAj (zAY.1 h) (w:=[]) (fun x hx=>by simp at hx) (by simp); simpa using this);have h1:isE c []=true:=by
  unfold isE isWd;rw [h,hn]; rfl
 unfold isHk;rw [h];simp only [zAe,h1];decide
theorem zMo {d:List (List Int)} {w:List Int} (h1:ibB d w=true) (h2:mhB d (zAs d w.reverse) (ibR d w)=true):mhR d (zAs d w.reverse) (ibR d w)=scR d (zAd [1] (zAB d w).length) (zAs d []):=by
 unfold ibB at h1;simp only [Bool.and_eq_true] at h1;obtain ⟨hr,hk⟩:=h1;have hr':=hr;unfold rtOk at hr';simp only [Bool.and_eq_true,decide_eq_true_eq] at hr';obtain ⟨hl,h10⟩:=hr';have hw:=zB8 hl;obtain ⟨a1,a2,a3⟩:=zAT hw;have hc:=zAY.1 a1;have e1:ibR d w=puts (ibT d w (lwR d w)):=by unfold ibR gd; rw [if_pos hr,if_pos hk]
 have hok:=zGM (c:=d) (l:=w) (zB9 hl).2;have hT:∀t∈ibT d w (lwR d w),Trd t.2∧InI t.2:=fun t ht=>(hok t ht).2.2;have kI:∀t∈ibR d w,InI t.2:=by rw [e1]; exact (zBD _ _ rfl hT).1.inn
 have wr:=zGn hw;obtain ⟨m1,m2,m3⟩:=zIm hc a3 a2;have e2:zAs d w.reverse=[(zAB d w.reverse,[1])]:=by unfold zAs zBB; rw [if_pos wr,if_pos wr]
 have e3:zAs d []=[([],[1])]:=by
  have w0:isWd d []=true:=by unfold isWd; rw [a1]; rfl
  have n0:zAB d []=[]:=List.eq_nil_of_length_eq_zero (by have:=zAj hc (w:=[]) (fun x hx=>by simp at hx) (by simp); simpa using this);unfold zAs zBB;rw [if_pos w0,if_pos w0,n0]
 rw [e2] at h2 ⊢;rw [e3];have one:∀t∈[(zAB d w.reverse,([1]:List Int))],InI t.2:=fun t ht=>by
  rw [List.mem_singleton] at ht; subst ht;intro y hy; simp at hy; subst hy; omega
 obtain ⟨_,_,eR,gR⟩:=zQR one kI (zPr h2);obtain ⟨n1,n2⟩:=zBo hc a3 (by omega);have gK:CgF d.length (fL d (ibR d w)) (fun x k=>sgZ (zAB d w).length (Cox.ep (dops (ent d) (toN (zAB d w)) (d0 d.length (ent d))) x k)):=by
  rw [e1];refine (zFT hc (fun t ht=>?_) hT).trans (zQO hr);obtain ⟨z,hz,rfl⟩:=List.mem_map.1 ht;have:=(zB9 hl).2 z hz;exact ⟨this.1.lets,by have:=this.2; show z.length≤28; omega,this.1.nf⟩
 have lX:=zAx m1.lets;have lW:=zAx n1.lets;have i1:=(Cox.d0_inv (n:=d.length) (c:=ent d)).dops lW;have wl:(toN (zAB d w)).length=(zAB d w).length:=by simp [toN]
 -- the left side is the unit, shifted
 have g1:CgF d.length (fL d (mhR d [(zAB d w.reverse,[1])] (ibR d w))) (fun x k=>shN (zAB d w).length (d0 d.length (ent d) x) k):=fun x hx k=>by
  have s1:=gR x hx k;have s2:=zJZ (c:=ent d) gK lX x hx k;have s3:LH d [(zAB d w.reverse,[1])] (fL d (ibR d w)) x k=lops (ent d) (toN (zAB d w.reverse)) (fL d (ibR d w)) x k:=by
   show (1*lops (ent d) (toN (zAB d w.reverse)) (fL d (ibR d w)) x k+sh (fun _=>0) k)+0=_;rw [zFH]; simp
  rw [s1,s3,s2,zJs];show wrap64 (sgZ (zAB d w).length (lops (ent d) (toN (zAB d w.reverse)) (Cox.ep (dops (ent d) (toN (zAB d w)) (d0 d.length (ent d)))) x k))=_;rw [Cox.lops_same hc.car (i1.ep hc.car) (m1.red hc) ((n1.red hc).rev hc.car) m2 x hx,Cox.lops_dops hc.car Cox.d0_inv lW x hx];show wrap64 (sgZ (zAB d w).length (Cox.nsN (toN (zAB d w)).length (Cox.ep (d0 d.length (ent d)) x) k))=_;rw [Cox.ep_d0 hc.car x hx,wl,zLo,zOw]
 -- so is the right side
 have hP:isP (zAd [1] (zAB d w).length)=true:=by
  have t0:Trd (zAd [1] (zAB d w).length):=by unfold zAd; rw [if_neg (by simp)]; exact zBI _
  have l0:(zAd [1] (zAB d w).length).length≤11:=by
   unfold zAd;rw [if_neg (by simp)];have:=zBm (List.replicate (zAB d w).length 0++[1]);simp at this;omega
  have l1:=zEm (zAd [1] (zAB d w).length);rw [zDH t0] at l1;unfold isP;rw [decide_eq_true (by omega),decide_eq_true l1.symm]; rfl
 have l0:(zAd [1] (zAB d w).length).length≤61:=(zE2 hP).1;have l11:(zAd [1] (zAB d w).length).length≤11:=by
  unfold zAd;rw [if_neg (by simp)];have:=zBm (List.replicate (zAB d w).length 0++[1]);simp at this;omega
 have hE:Elt d [([],[1])]:=⟨zAZ (zIQ a1),fun t ht=>by
  rw [List.mem_singleton] at ht; subst ht;intro y hy; simp at hy; subst hy; omega⟩
 have hS:scB d (zAd [1] (zAB d w).length) [([],[1])]=true:=by
  unfold scB scOk;rw [zIQ a1,hP];simp only [List.all_cons,List.all_nil,Bool.and_true,Bool.true_and,decide_eq_true_eq];show ([1]:List Int).length+_≤62;simp; omega
 obtain ⟨c1,c2⟩:=zNh hE hS;have g2:CgF d.length (fL d (scR d (zAd [1] (zAB d w).length) [([],[1])])) (fun x k=>shN (zAB d w).length (d0 d.length (ent d) x) k):=fun x hx k=>by
  have s1:=c2 x hx k;have s2:=zPf hc (zM8 hc) x hx;rw [s1];show wrap64 (pm _ (fL d [([],[1])] x) k)=wrap64 (shN _ _ k);rw [s2];show wrap64 (pm _ (dl d.length (ent d) [] x) k)=wrap64 (shN _ _ k);rw [zQK];congr 1;by_cases he:Eqv d.length (ent d) [] x
  ·rw [zEt he,zKf zNj,zOz,zGl];by_cases hk:k=(zAB d w).length
   ·subst hk; simp
   ·rw [if_neg hk];by_cases hk2:(zAB d w).length≤k
    ·rw [if_pos hk2,if_neg (by omega)]
    ·rw [if_neg hk2]
  ·rw [zDs he,zDA,zI5]
 have hcan:Can (scR d (zAd [1] (zAB d w).length) [([],[1])]):=by
  unfold scR;rw [if_pos hS];exact (zBD _ _ rfl (zEN _ _)).1
 exact zPe hc eR.can hcan (fun t ht=>(eR.nice ht).1) (fun t ht=>(c1 t ht).2.2) (g1.trans g2.symm)
end Go.Proofs.YtlchafedbnihoaaGreat
