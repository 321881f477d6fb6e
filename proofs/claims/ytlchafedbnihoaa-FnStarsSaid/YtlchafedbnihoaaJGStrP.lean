/- Normal words: reduced, known by their images; a letter ahead of one. Plain. Condition: at most 28 letters. -/
import Derived.Test.YtlchafedbnihoaaJGHop
import Derived.Test.YtlchafedbnihoaaJGStar
namespace Go.Proofs.Ytlchafedbnihoaa
open Go.RowKit
open Cox (Eqv Rdd Ld)
set_option maxRecDepth 20000
theorem zAm {c:List (List Int)} (hc:CartanP c):∀{w:List Int},Lets c.length w→w.length≤30→(zAK c w).length=c.length∧∀k,k<c.length→num (zAK c w) k=Cox.aW (ent c) (toN w) Cox.one k
 | [],_,_=>⟨by simp [zAK,act],fun k hk=>by simp [zAK,act,num,toN,Cox.aW,Cox.one,hk]⟩
 | i::w,hw,hl=>by
  obtain ⟨h1,h2⟩:=zAm hc (w:=w) (fun x hx=>hw x (by simp [hx])) (by simp at hl; omega);have hi:=hw i (by simp);have hlw:Cox.Lets c.length (toN w):=fun j hj=>by
   obtain ⟨x,hx,rfl⟩:=List.mem_map.1 hj;have:=hw x (by simp [hx]); omega
  refine ⟨by show (refl c i.toNat (zAK c w)).length=_; rw [zAa,h1],fun k hk=>?_⟩;exact zAy hc h1 hlw (by simp [toN]; simp at hl; omega) h2 (by omega) hk
theorem zAu {n:Nat} {w:List Int} (h:Lets n w):Cox.Lets n (toN w):=fun j hj=>by
 obtain ⟨x,hx,rfl⟩:=List.mem_map.1 hj;have:=h x hx; omega
def toI (w:List Nat):List Int:=w.map Int.ofNat
theorem zFK {n:Nat} {w:List Nat} (h:Cox.Lets n w):Lets n (toI w):=fun x hx=>by
 obtain ⟨i,hi,rfl⟩:=List.mem_map.1 hx;have:=h i hi;exact ⟨Int.natCast_nonneg i,by show (i:Int)<n; omega⟩
theorem zGA:∀w:List Nat,toN (toI w)=w
 | []=>rfl
 | i::w=>by show (Int.ofNat i).toNat::toN (toI w)=i::w; rw [zGA w]; rfl
def zDn (c:List (List Int)) (x:List Int) (w:List Nat):Prop:=∀k,k<c.length→Cox.aW (ent c) (toN x) Cox.one k=Cox.aW (ent c) w Cox.one k
instance (c:List (List Int)) (x:List Int) (w:List Nat):Decidable (zDn c x w):=by unfold zDn; infer_instance
theorem zDj {c:List (List Int)} (hc:CartanP c) {x:List Int} {w:List Nat} (hx:Lets c.length x) (hw:Cox.Lets c.length w):zDn c x w↔Eqv c.length (ent c) (toN x) w :=
 ⟨fun h=>Cox.faithful hc.car (zAu hx) hw h,fun h k _=>by rw [h.m]⟩
structure Nice (c:List (List Int)) (x:List Int):Prop where
 lets:Lets c.length x
 len:x.length≤28
 nrm:zAB c x=x
theorem zDs {c:List (List Int)} (hc:CartanP c) {x y:List Int} (hx:Lets c.length x) (hy:Lets c.length y) (lx:x.length≤30) (ly:y.length≤30) (h:zDn c x (toN y)):zAB c x=zAB c y:=by
 obtain ⟨a1,a2⟩:=zAm hc hx lx;obtain ⟨b1,b2⟩:=zAm hc hy ly;unfold zAB;rw [zCW a1 b1 fun k hk=>by rw [a2 k hk,b2 k hk,h k hk]]
theorem Nice.red {c:List (List Int)} (hc:CartanP c) {x:List Int} (h:Nice c x):Rdd c.length (ent c) (toN x):=⟨zAu h.lets,fun w' hw' he=>by
 by_cases hl:w'.length≤30
 ·have h1:=zDs hc h.lets (zFK hw') (by have:=h.len; omega) (by simpa [toI] using hl) (by rw [zGA]; exact (zDj hc h.lets hw').2 he);have h2:=zAz hc (zFK hw') (by simpa [toI] using hl);rw [<-h1,h.nrm] at h2;simpa [toN,toI] using h2
 ·have:=h.len;simp [toN]; omega⟩
theorem Nice.same {c:List (List Int)} (hc:CartanP c) {x y:List Int} (h:Nice c x) (h':Nice c y):zDn c x (toN y)↔x=y :=
 ⟨fun e=>by have:=zDs hc h.lets h'.lets (by have:=h.len; omega) (by have:=h'.len; omega) e; rwa [h.nrm,h'.nrm] at this,fun e=>by rw [e]; exact fun _ _=>rfl⟩
theorem zAV {c:List (List Int)} (hc:CartanP c) {x:List Int} (hx:Lets c.length x) (hl:x.length≤28):Nice c (zAB c x)∧Eqv c.length (ent c) (toN (zAB c x)) (toN x):=by
 have h1:=zAz hc hx (by omega);have h2:=zCf hc hx (by omega);have h3:zAK c (zAB c x)=zAK c x:=zDd hc _ (zAb hc hx (by omega)) (by omega);refine ⟨⟨h2,by omega,by unfold zAB at h3 ⊢; rw [h3]⟩,(zDj hc h2 (zAu hx)).1 fun k hk=>?_⟩;rw [<-(zAm hc h2 (by omega)).2 k hk,<-(zAm hc hx (by omega)).2 k hk,h3]
end Go.Proofs.Ytlchafedbnihoaa
namespace Go.Proofs.Ytlchafedbnihoaa
set_option maxRecDepth 20000
namespace Cox
variable {n:Nat} {c:Nat→Nat→Int}
def rst (c:Nat→Nat→Int) (x:List Nat) (t:Nat):List Nat:=if Rd c t x then x else x++[t]
def lst (c:Nat→Nat→Int) (s:Nat) (x:List Nat):List Nat:=if Ld c s x then x else s::x
def rsts (c:Nat→Nat→Int):List Nat→List Nat→List Nat
 | x,[]=>x
 | x,t::w=>rsts c (rst c x t) w
def lsts (c:Nat→Nat→Int):List Nat→List Nat→List Nat
 | [],x=>x
 | s::w,x=>lst c s (lsts c w x)
theorem rst_lets {x:List Nat} {t:Nat} (hx:Lets n x) (ht:t<n):Lets n (rst c x t):=by
 unfold rst; split
 ·exact hx
 ·exact zAS ht hx
theorem zDb {x:List Nat} {s:Nat} (hx:Lets n x) (hs:s<n):Lets n (lst c s x):=by
 unfold lst; split
 ·exact hx
 ·exact lets_cons' hs hx
theorem rsts_lets:∀{w x:List Nat},Lets n x→Lets n w→Lets n (rsts c x w)
 | [],_,hx,_=>hx
 | t::w,x,hx,hw=>show Lets n (rsts c (rst c x t) w) from rsts_lets (w:=w) (rst_lets hx (zAI hw).1) (zAI hw).2
theorem zC3:∀{w x:List Nat},Lets n x→Lets n w→Lets n (lsts c w x)
 | [],_,hx,_=>hx
 | _::_,_,hx,hw=>zDb (zC3 hx (zAI hw).2) (zAI hw).1
theorem zIk (h:Car n c) {x y:List Nat} (hx:Lets n x) (hy:Lets n y) (t:Nat) (he:Eqv n c x y):Eqv n c (rst c x t) (rst c y t):=by
 have e:=Rd.eqv h hx hy t he;unfold rst;by_cases a:Rd c t x
 ·rw [if_pos a,if_pos (e.1 a)]; exact he
 ·rw [if_neg a,if_neg (mt e.2 a)]; exact he.snoc t
theorem zFq {x y:List Nat} (s:Nat) (he:Eqv n c x y):Eqv n c (lst c s x) (lst c s y):=by
 have e:=Ld.eqv s he;unfold lst;by_cases a:Ld c s x
 ·rw [if_pos a,if_pos (e.1 a)]; exact he
 ·rw [if_neg a,if_neg (mt e.2 a)]; exact he.cons s
theorem rsts_eqv (h:Car n c):∀{w x y:List Nat},Lets n x→Lets n y→Lets n w→Eqv n c x y→Eqv n c (rsts c x w) (rsts c y w)
 | [],_,_,_,_,_,he=>he
 | t::w,x,y,hx,hy,hw,he=>show Eqv n c (rsts c (rst c x t) w) (rsts c (rst c y t) w) from rsts_eqv h (w:=w) (rst_lets hx (zAI hw).1) (rst_lets hy (zAI hw).1) (zAI hw).2 (zIk h hx hy _ he)
theorem zDc:∀{w x y:List Nat},Eqv n c x y→Eqv n c (lsts c w x) (lsts c w y)
 | [],_,_,he=>he
 | _::_,_,_,he=>zFq _ (zDc he)
theorem zIU (h:Car n c) {s t:Nat} (hs:s<n) (ht:t<n) {x:List Nat} (hx:Lets n x):Eqv n c (lst c s (rst c x t)) (rst c (lst c s x) t):=by
 rcases zBx h hs ht hx with ⟨e1,e2⟩ | ⟨e1,e2,e3,e4⟩
 ·unfold rst lst;by_cases a:Ld c s x <;> by_cases b:Rd c t x
  ·rw [if_pos b,if_pos a,if_pos b]; exact Eqv.refl _
  ·rw [if_neg b,if_pos (e1.2 a),if_pos a,if_neg b]; exact Eqv.refl _
  ·rw [if_pos b,if_neg a,if_pos (e2.2 b)]; exact Eqv.refl _
  ·rw [if_neg b,if_neg (mt e1.1 a),if_neg a,if_neg (mt e2.1 b)]; exact Eqv.refl _
 ·unfold rst lst;by_cases a:Ld c s x
  ·rw [if_pos (e2.1 a),if_pos a,if_pos (e2.1 a)]; exact Eqv.refl _
  ·rw [if_neg (mt e2.2 a),if_pos (e3.2 a),if_neg a,if_pos (e4.2 (mt e2.2 a))]; exact e1.symm
theorem zEw (h:Car n c) {s:Nat} (hs:s<n):∀{w x:List Nat},Lets n x→Lets n w→Eqv n c (lst c s (rsts c x w)) (rsts c (lst c s x) w)
 | [],_,_,_=>Eqv.refl _
 | t::w,x,hx,hw=>by
  obtain ⟨ht,hw⟩:=zAI hw;exact (zEw h hs (w:=w) (rst_lets hx ht) hw).trans (rsts_eqv h (zDb (rst_lets hx ht) hs) (rst_lets (zDb hx hs) ht) hw (zIU h hs ht hx))
theorem zC4 (h:Car n c):∀{v w x:List Nat},Lets n x→Lets n v→Lets n w→Eqv n c (lsts c v (rsts c x w)) (rsts c (lsts c v x) w)
 | [],_,_,_,_,_=>Eqv.refl _
 | s::v,w,x,hx,hv,hw=>by
  obtain ⟨hs,hv⟩:=zAI hv;exact (zFq s (zC4 h hx hv hw)).trans (zEw h hs (zC3 hx hv) hw)
theorem Rdd.upr (h:Car n c) {t:Nat} {x:List Nat} (ht:t<n) (hr:Rdd n c x) (hd:¬Rd c t x):Rdd n c (x++[t]):=by
 have h1:Rdd n c (t::x.reverse):=(hr.rev h).up h ht hd;have:=h1.rev h;simpa using this
theorem zIl (h:Car n c) {t:Nat} {x:List Nat} (ht:t<n) (hr:Rdd n c x):Rdd n c (rst c x t):=by
 unfold rst;by_cases a:Rd c t x
 ·rw [if_pos a]; exact hr
 ·rw [if_neg a]; exact hr.upr h ht a
theorem zE9 (h:Car n c):∀{w x:List Nat},Rdd n c x→Lets n w→Rdd n c (rsts c x w)
 | [],_,hr,_=>hr
 | t::w,x,hr,hw=>show Rdd n c (rsts c (rst c x t) w) from zE9 h (w:=w) (zIl h (zAI hw).1 hr) (zAI hw).2
theorem zIT (h:Car n c) {s:Nat} {x:List Nat} (hs:s<n) (hr:Rdd n c x):Rdd n c (lst c s x):=by
 unfold lst;by_cases a:Ld c s x
 ·rw [if_pos a]; exact hr
 ·rw [if_neg a]; exact hr.up h hs a
theorem zEz (h:Car n c):∀{w x:List Nat},Rdd n c x→Lets n w→Rdd n c (lsts c w x)
 | [],_,hr,_=>hr
 | _::_,_,hr,hw=>zIT h (zAI hw).1 (zEz h hr (zAI hw).2)
theorem zEy (h:Car n c):∀{w:List Nat},Rdd n c w→lsts c w []=w
 | [],_=>rfl
 | s::w,hr=>by
  obtain ⟨_,hw,hd⟩:=hr.cons h;show lst c s (lsts c w [])=_;rw [zEy h hw];unfold lst; rw [if_neg hd]
theorem zE7 (w':List Nat):∀(w x:List Nat),rsts c x (w++w')=rsts c (rsts c x w) w'
 | [],_=>rfl
 | t::w,x=>zE7 w' w (rst c x t)
theorem zE8 (h:Car n c):∀(m:Nat) {w:List Nat},w.length=m→Rdd n c w→rsts c [] w=w
 | m,w,hm,hr=>by
  rcases List.eq_nil_or_concat w with rfl | ⟨v,t,rfl⟩
  ·rfl
  ·rw [List.concat_eq_append] at hr hm ⊢;obtain ⟨_,hv,hd⟩:=hr.snoc h;cases m with
   | zero=>simp at hm
   | succ m =>
    rw [zE7,zE8 h m (by simpa using hm) hv];show rst c v t=_;unfold rst; rw [if_neg hd]
theorem zBl (h:Car n c) {x y:List Nat} (hx:Rdd n c x) (hy:Rdd n c y):Eqv n c (rsts c x y) (lsts c x y):=by
 have:=zC4 h (v:=x) (w:=y) zB8 hx.1 hy.1;rw [zEy h hx,zE8 h _ rfl hy] at this;exact this.symm
theorem star_congr (h:Car n c) {x y y':List Nat} (hx:Rdd n c x) (hy:Rdd n c y) (hy':Rdd n c y') (he:Eqv n c y y'):Eqv n c (rsts c x y) (rsts c x y') :=
 (zBl h hx hy).trans ((zDc he).trans (zBl h hx hy').symm)
theorem star_assoc (h:Car n c) {a b d e:List Nat} (ha:Rdd n c a) (hb:Rdd n c b) (hd:Rdd n c d) (he:Rdd n c e) (hed:Eqv n c e (rsts c b d)):Eqv n c (rsts c (rsts c a b) d) (rsts c a e):=by
 have h1:=rsts_eqv h (w:=d) (rsts_lets ha.1 hb.1) (zC3 hb.1 ha.1) hd.1 (zBl h ha hb);have h2:=zC4 h (v:=a) (w:=d) hb.1 ha.1 hd.1;have h3:Eqv n c (lsts c a (rsts c b d)) (lsts c a e):=zDc hed.symm;exact h1.trans (h2.symm.trans (h3.trans (zBl h ha he).symm))
theorem zIm (x:List Nat) (t:Nat):(rst c x t).reverse=lst c t x.reverse:=by
 unfold rst lst;by_cases a:Rd c t x
 ·rw [if_pos a,if_pos (show Ld c t x.reverse from a)]
 ·rw [if_neg a,if_neg (show ¬Ld c t x.reverse from a)]; simp
theorem zEx (x:List Nat) (v:List Nat):∀w,lsts c (w++v) x=lsts c w (lsts c v x)
 | []=>rfl
 | s::w=>by show lst c s (lsts c (w++v) x)=_; rw [zEx x v w]; rfl
theorem zFA:∀(w x:List Nat),(rsts c x w).reverse=lsts c w.reverse x.reverse
 | [],_=>rfl
 | t::w,x=>by
  show (rsts c (rst c x t) w).reverse=_;rw [zFA w,zIm,List.reverse_cons,zEx]; rfl
theorem star_rev (h:Car n c) {a b:List Nat} (ha:Rdd n c a) (hb:Rdd n c b):Eqv n c (rsts c a b).reverse (rsts c b.reverse a.reverse):=by
 rw [zFA];exact (zBl h (hb.rev h) (ha.rev h)).symm
theorem zIn (x:List Nat) (t:Nat):x.Sublist (rst c x t):=by
 unfold rst; split
 ·exact List.Sublist.refl _
 ·exact List.sublist_append_left _ _
theorem zFB:∀(w x:List Nat),x.Sublist (rsts c x w)
 | [],_=>List.Sublist.refl _
 | t::w,x=>(zIn x t).trans (zFB w _)
theorem zE0 (x:List Nat):∀w:List Nat,x.Sublist (lsts c w x)
 | []=>List.Sublist.refl _
 | s::w=>by
  refine (zE0 x w).trans ?_;show (lsts c w x).Sublist (lst c s (lsts c w x));unfold lst; split
  ·exact List.Sublist.refl _
  ·exact List.sublist_cons_self _ _
theorem star_above (h:Car n c) {a b y:List Nat} (ha:Rdd n c a) (hb:Rdd n c b) (hy:Rdd n c y) (he:Eqv n c y (rsts c a b)):Part n c (aW c a one) y∧Part n c (aW c b one) y:=by
 constructor
 ·exact (zEQ h ha.1 (zE9 h ha hb.1) hy he.symm).1 ⟨a,zFB b a,fun _ _=>rfl⟩
 ·exact (zEQ h hb.1 (zEz h hb ha.1) hy ((he.trans (zBl h ha hb)).symm)).1 ⟨b,zE0 b a,fun _ _=>rfl⟩
theorem zCp {d:Nat→Nat→Int} {w:List Nat} (hw:∀j,j<n→Neg n (aR n d w (e j))):∀(m:Nat) {r:Nat→Int},m≤n→Pos n r→(∀k,m≤k→r k=0)→Neg n (aR n d w r)
 | 0,r,_,_,h0=>by
  have:r=fun _=>0*0+0*0:=funext fun k=>by rw [h0 k (Nat.zero_le _)]; rfl
  intro k hk;have e0:aR n d w r=fun k=>0*aR n d w (fun _=>0) k+0*aR n d w (fun _=>0) k:=by
   rw [this,zBq]
  rw [e0];simp
 | m+1,r,hm,hp,h0=>by
  have e1:r=fun k=>1*(fun k=>if k=m then 0 else r k) k+r m*e m k:=funext fun k=>by
   by_cases hk:k=m
   ·subst hk; simp [e]
   ·simp [e,hk]
  have ih:=zCp hw m (r:=fun k=>if k=m then 0 else r k) (by omega) (fun k hk=>by
   show 0≤if k=m then 0 else r k
   split
   ·omega
   ·exact hp k hk) (fun k hk=>by
   show (if k=m then 0 else r k)=0;by_cases h:k=m
   ·rw [if_pos h]
   ·rw [if_neg h]; exact h0 k (by omega))
  intro k hk;have a1:=ih k hk;have a2:=hw m (by omega) k hk;have a3:=hp m (by omega);rw [e1,zBq];show 1*aR n d w (fun k=>if k=m then 0 else r k) k+r m*aR n d w (e m) k≤0;have a4:0≤r m * -(aR n d w (e m) k):=Int.mul_nonneg a3 (by omega);rw [Int.mul_neg] at a4;omega
theorem zBN (h:Car n c) {l:List Nat} (hl:Rdd n c l) (ha:∀j,j<n→Ld c j l):∀(m:Nat) {y:List Nat},y.length=m→Rdd n c y→∃z,Rdd n c z∧Eqv n c l (y++z)∧l.length=y.length+z.length
 | m,y,hm,hr=>by
  rcases List.eq_nil_or_concat y with rfl | ⟨v,s,rfl⟩
  ·exact ⟨l,hl,Eqv.refl _,by simp⟩
  ·rw [List.concat_eq_append] at hr hm ⊢;obtain ⟨hs,hv,hd⟩:=hr.snoc h;cases m with
   | zero=>simp at hm
   | succ m =>
    obtain ⟨z,z1,z2,z3⟩:=zBN h hl ha m (y:=v) (by simpa using hm) hv;have hvr:Eqv n c (v.reverse++l) z:=by
     have h1:Eqv n c (v.reverse++l) (v.reverse++(v++z)):=(Eqv.refl _).app z2;have h2:Eqv n c ((v.reverse++v)++z) ([]++z):=(Eqv.inv h hv.1).app (Eqv.refl z);rw [List.append_assoc] at h2;exact h1.trans h2
    have hz:Ld c s z:=by
     have hlz:=zB7 (lets_rev hv.1) hl.1;refine Decidable.byContradiction fun hn=>?_;have hn2:¬Ld c s (v.reverse++l):=mt (Ld.eqv s hvr).1 hn;have p1:=(zBK h hs hlz).2 hn2;have e1:(v.reverse++l).reverse=l.reverse++v:=by simp
     rw [e1] at p1;have p2:PosA n c v s:=by
      have:=(zBK h hs (lets_rev hv.1)).2 hd;rwa [List.reverse_reverse] at this
     have q1:Neg n (aR n c (l.reverse++v) (e s)):=by
      rw [zAU];exact zCp (fun j hj=>((zBK h hj hl.1).1 (ha j hj)).1) n (zJm n) p2.1 (fun k hk=>by rw [zBZ hk _ hv.1,zBu hs hk])
     have q2:Neg n (aR n (tr c) (l.reverse++v) (e s)):=by
      rw [zAU];exact zCp (fun j hj=>((zBK h hj hl.1).1 (ha j hj)).2) n (zJm n) p2.2 (fun k hk=>by rw [zBZ hk _ hv.1,zBu hs hk])
     exact zDe (by omega) h hs (zB7 (lets_rev hl.1) hv.1) p1 ⟨q1,q2⟩
    obtain ⟨x,x1,x2,_,x4⟩:=exch_left h hs z1.1 hz;have hx:Rdd n c x:=⟨x1,fun w' hw' he=>by
     have:=z1.2 (s::w') (lets_cons' hs hw') ((Eqv.dbl h hs z).symm.trans ((x4.trans he).cons s));simp at this; omega⟩
    refine ⟨x,hx,?_,by simp; omega⟩;have h5:Eqv n c z (s::x):=(Eqv.dbl h hs z).symm.trans (x4.cons s);have h6:Eqv n c (v++z) (v++(s::x)):=(Eqv.refl v).app h5;have e2:(v++[s])++x=v++(s::x):=by simp
    rw [e2];exact z2.trans h6
theorem longest_same (h:Car n c) {l y:List Nat} (hl:Rdd n c l) (ha:∀j,j<n→Ld c j l) (hy:Rdd n c y):y.length≤l.length∧((∀j,j<n→Rd c j y)↔l.length=y.length):=by
 obtain ⟨z,z1,z2,z3⟩:=zBN h hl ha _ rfl hy;refine ⟨by omega,fun hr=>?_,fun he=>?_⟩
 ·obtain ⟨z',y1,y2,y3⟩:=zBN h (hy.rev h) (fun j hj=>hr j hj) _ rfl hl;simp at y3;omega
 ·-- the word and its inverse are the longest one
  have key:∀{y:List Nat},Rdd n c y→l.length=y.length→Eqv n c l y:=fun {y} hy he=>by
   obtain ⟨z,z1,z2,z3⟩:=zBN h hl ha _ rfl hy;have:z=[]:=List.eq_nil_of_length_eq_zero (by omega);subst this;rwa [List.append_nil] at z2
  intro j hj;exact (Ld.eqv j (key (hy.rev h) (by simpa using he))).1 (ha j hj)
theorem zDy (h:Car n c) {u:Nat→Int} (hu:Pos n u) (hd:∀i,i<n→dotN (c i) u n≤0):∀(m:Nat) {w:List Nat},w.length=m→Rdd n c w→∀k,k<n→u k≤aR n c w u k
 | m,w,hm,hr=>by
  rcases List.eq_nil_or_concat w with rfl | ⟨v,s,rfl⟩
  ·exact fun k _=>Int.le_refl _
  ·rw [List.concat_eq_append] at hr hm ⊢;obtain ⟨hs,hv,hd'⟩:=hr.snoc h;cases m with
   | zero=>simp at hm
   | succ m =>
    have ih:=zDy h hu hd m (w:=v) (by simpa using hm) hv;have p2:PosA n c v s:=by
     have:=(zBK h hs (lets_rev hv.1)).2 hd';rwa [List.reverse_reverse] at this
    intro k hk;rw [zAU];show u k≤aR n c v (sR n c s u) k;have e1:sR n c s u=fun j=>u j-dotN (c s) u n*e s j:=rfl;rw [e1,zGV];have a1:=ih k hk;have a2:=p2.1 k hk;have a3:=hd s hs;have a4:0≤-(dotN (c s) u n)*aR n c v (e s) k:=Int.mul_nonneg (by omega) a2;rw [Int.neg_mul] at a4;show u k≤aR n c v u k-dotN (c s) u n*aR n c v (e s) k;omega
theorem zGN (h:Car n c) {u:Nat→Int} (hu:Pos n u) (hd:∀i,i<n→dotN (c i) u n≤0) (hn:∃k,k<n∧0<u k) (h0:∀k,n≤k→u k=0) {l:List Nat} (hl:Rdd n c l) (ha:∀j,j<n→Ld c j l):False:=by
 obtain ⟨k,hk,hp⟩:=hn;have h1:=zDy h hu hd _ rfl (hl.rev h) k hk;have h2:=zCp (fun j hj=>((zBK h hj hl.1).1 (ha j hj)).1) n (zJm n) hu h0 k hk;omega
end Cox
end Go.Proofs.Ytlchafedbnihoaa
namespace Go.Proofs.Ytlchafedbnihoaa
set_option maxRecDepth 20000
namespace Cox
variable {n:Nat} {c:Nat→Nat→Int}
def comb:List (Nat × Int)→(Nat→Int)
 | []=>fun _=>0
 | t::L=>fun k=>t.2*e t.1 k+comb L k
theorem zEl (f:Nat→Int):∀n,dotN f (fun _=>0) n=0
 | 0=>rfl
 | n+1=>by show dotN f _ n+f n*0=0; rw [zEl f n]; simp
theorem zEL (f:Nat→Int):∀{L:List (Nat × Int)},(∀t∈L,t.1<n)→dotN f (comb L) n=(L.map fun t=>t.2*f t.1).sum
 | [],_=>zEl f n
 | t::L,h=>by
  have h1:=zA5 f (e t.1) (comb L) t.2 1 n;have e1:comb (t::L)=fun k=>t.2*e t.1 k+1*comb L k:=funext fun k=>by rw [Int.one_mul]; rfl
  rw [e1,h1,dotN_e _ _ _ (h t (List.mem_cons_self ..)),zEL f fun s hs=>h s (List.mem_cons_of_mem _ hs),List.map_cons,List.sum_cons];omega
theorem zDT:∀{L:List (Nat × Int)},(∀t∈L,0≤t.2)→∀k,0≤comb L k∧∀t∈L,t.2≤comb L t.1
 | [],_,k=>⟨Int.le_refl _,fun t ht=>by simp at ht⟩
 | t::L,h,k=>by
  have ht:=h t (List.mem_cons_self ..);have key:∀k,0≤t.2*e t.1 k:=fun k=>Int.mul_nonneg ht (by unfold e; split <;> omega);have ih:=fun k=>zDT (L:=L) (fun s hs=>h s (List.mem_cons_of_mem _ hs)) k;refine ⟨by have:=key k; have:=(ih k).1; show 0≤_+_; omega,fun s hs=>?_⟩;show s.2≤t.2*e t.1 s.1+comb L s.1;rcases List.mem_cons.1 hs with rfl | hs
  ·have:=(ih s.1).1;simp [e]; omega
  ·have:=(ih s.1).2 s hs;have:=key s.1;omega
theorem zEh:∀{L:List (Nat × Int)},(∀t∈L,t.1<n)→∀k,n≤k→comb L k=0
 | [],_,_,_=>rfl
 | t::L,h,k,hk=>by
  show t.2*e t.1 k+comb L k=0;rw [zEh (fun s hs=>h s (List.mem_cons_of_mem _ hs)) k hk,zBu (h t (List.mem_cons_self ..)) hk]; simp
theorem zF3:∀{L:List (Nat × Int)} {f:Nat→Int},(∀t∈L,0≤t.2∧f t.1≤0)→(L.map fun t=>t.2*f t.1).sum≤0
 | [],_,_=>Int.le_refl _
 | t::L,f,h=>by
  have h1:=zF3 (L:=L) (f:=f) fun s hs=>h s (List.mem_cons_of_mem _ hs);have h2:=h t (List.mem_cons_self ..);have h3:=Int.mul_nonneg h2.1 (show 0≤-(f t.1) by omega);rw [Int.mul_neg] at h3;rw [List.map_cons,List.sum_cons]; omega
structure Bad (n:Nat) (c:Nat→Nat→Int) (L:List (Nat × Int)):Prop where
 lt:∀t∈L,t.1<n
 pos:∀t∈L,0≤t.2
 one:∃t∈L,0<t.2
 low:∀s∈L,(L.map fun t=>t.2*c s.1 t.1).sum≤0
theorem Bad.no (h:Car n c) {L:List (Nat × Int)} (b:Bad n c L) {l:List Nat} (hl:Rdd n c l) (ha:∀j,j<n→Ld c j l):False:=by
 obtain ⟨t,ht,hp⟩:=b.one;refine zGN h (u:=comb L) (fun k _=>(zDT b.pos k).1) (fun i hi=>?_) ⟨t.1,b.lt t ht,by have:=(zDT b.pos 0).2 t ht; omega⟩ (zEh b.lt) hl ha;rw [zEL (c i) b.lt];by_cases hm:∃s∈L,s.1=i
 ·obtain ⟨s,hs,rfl⟩:=hm;exact b.low s hs
 ·refine zF3 fun s hs=>⟨b.pos s hs,(h.off i s.1 hi (b.lt s hs) fun e=>hm ⟨s,hs,e.symm⟩).2⟩
theorem mn {x y:Int} (h:x≤0) (h':y≤0):0≤x*y:=by
 have:=Int.mul_nonneg (show 0≤-x by omega) (show 0≤-y by omega);rwa [Int.neg_mul_neg] at this
theorem mp {x y:Int} (h:0≤x) (h':0≤y):0≤x*y:=Int.mul_nonneg h h'
theorem bad2 (h:Car n c) {a b:Nat} (ha:a<n) (hb:b<n) (hab:a≠b) (hd:2*2-c a b*c b a≤0):Bad n c [(a,2),(b,-(c b a))]:=by
 have h1:=(h.off b a hb ha (fun e=>hab e.symm)).2;refine ⟨fun t ht=>?_,fun t ht=>?_,⟨(a,2),by simp,by omega⟩,fun s hs=>?_⟩
 ·simp at ht; rcases ht with rfl | rfl <;> assumption
 ·simp at ht; rcases ht with rfl | rfl
  ·show (0:Int)≤2; omega
  ·show 0≤-(c b a); omega
 ·simp at hs; rcases hs with rfl | rfl
  ·simp only [List.map_cons,List.map_nil,List.sum_cons,List.sum_nil,h.diag a ha];have:=Int.mul_comm (c a b) (c b a);rw [Int.neg_mul];omega
  ·simp [h.diag b hb];omega
theorem bad3 (h:Car n c) {a b d:Nat} (ha:a<n) (hb:b<n) (hd:d<n) (hab:a≠b) (had:a≠d) (hbd:b≠d) (h0:0<2*2-c b d*c d b)
  (hdet:2*(2*2-c b d*c d b)+c a b * -(c b a*2-c b d*c d a)+c a d*(c b a*c d b-2*c d a)≤0) :
  Bad n c [(a,2*2-c b d*c d b),(b,-(c b a*2-c b d*c d a)),(d,c b a*c d b-2*c d a)]:=by
 have x1:=(h.off b a hb ha (fun e=>hab e.symm)).2;have x2:=(h.off d a hd ha (fun e=>had e.symm)).2;have x3:=(h.off b d hb hd hbd).2;have x4:=(h.off d b hd hb (fun e=>hbd e.symm)).2;have m1:=mn x3 x2;have m2:=mn x1 x4;refine ⟨fun t ht=>?_,fun t ht=>?_,⟨_,List.mem_cons_self ..,h0⟩,fun s hs=>?_⟩
 ·simp at ht; rcases ht with rfl | rfl | rfl <;> assumption
 ·simp at ht; rcases ht with rfl | rfl | rfl
  ·show 0≤2*2-c b d*c d b; omega
  ·show 0≤-(c b a*2-c b d*c d a); omega
  ·show 0≤c b a*c d b-2*c d a; omega
 ·simp only [List.mem_cons,List.not_mem_nil,or_false] at hs;rcases hs with rfl | rfl | rfl
  ·simp only [List.map_cons,List.map_nil,List.sum_cons,List.sum_nil,h.diag a ha]
   grind
  ·simp only [List.map_cons,List.map_nil,List.sum_cons,List.sum_nil,h.diag b hb]
   grind
  ·simp only [List.map_cons,List.map_nil,List.sum_cons,List.sum_nil,h.diag d hd]
   grind
theorem id4b (ba da fa bd db bf fb df fd:Int):(2*(2*2-df*fd)-bd*(db*2-df*fb)+bf*(db*fd-2*fb))*ba+(-(ba*(2*2-df*fd)-bd*(da*2-df*fa)+bf*(da*fd-2*fa))*2+((ba*(db*2-df*fb)-2*(da*2-df*fa)+bf*(da*fb-db*fa))*bd+(-(ba*(db*fd-2*fb)-2*(da*fd-2*fa)+bd*(da*fb-db*fa))*bf+0)))=0:=by grind
theorem id4d (ba da fa bd db bf fb df fd:Int):(2*(2*2-df*fd)-bd*(db*2-df*fb)+bf*(db*fd-2*fb))*da+(-(ba*(2*2-df*fd)-bd*(da*2-df*fa)+bf*(da*fd-2*fa))*db+((ba*(db*2-df*fb)-2*(da*2-df*fa)+bf*(da*fb-db*fa))*2+(-(ba*(db*fd-2*fb)-2*(da*fd-2*fa)+bd*(da*fb-db*fa))*df+0)))=0:=by grind
theorem id4f (ba da fa bd db bf fb df fd:Int):(2*(2*2-df*fd)-bd*(db*2-df*fb)+bf*(db*fd-2*fb))*fa+(-(ba*(2*2-df*fd)-bd*(da*2-df*fa)+bf*(da*fd-2*fa))*fb+((ba*(db*2-df*fb)-2*(da*2-df*fa)+bf*(da*fb-db*fa))*fd+(-(ba*(db*fd-2*fb)-2*(da*fd-2*fa)+bd*(da*fb-db*fa))*2+0)))=0:=by grind
theorem ps1 (ba da fa bd db bf fb df fd:Int):-(ba*(2*2-df*fd)-bd*(da*2-df*fa)+bf*(da*fd-2*fa)) = -ba*(2*2-df*fd)+2*(bd*da)+bd*df * -fa+bf*da * -fd+2*(bf*fa):=by grind
theorem ps2 (ba da fa bd db bf fb df fd:Int):(ba*(db*2-df*fb)-2*(da*2-df*fa)+bf*(da*fb-db*fa)) = -da*(2*2-bf*fb)+2*(ba*db)+ba*df * -fb+2*(df*fa)+bf*db * -fa:=by grind
theorem ps3 (ba da fa bd db bf fb df fd:Int):-(ba*(db*fd-2*fb)-2*(da*fd-2*fa)+bd*(da*fb-db*fa)) = -fa*(2*2-bd*db)+ba*db * -fd+2*(ba*fb)+2*(da*fd)+bd*da * -fb:=by grind
theorem bad4 (h:Car n c) {a b d f:Nat} (ha:a<n) (hb:b<n) (hd:d<n) (hf:f<n) (hab:a≠b) (had:a≠d) (haf:a≠f) (hbd:b≠d) (hbf:b≠f) (hdf:d≠f)
  (s1:0<2*2-c d f*c f d) (s2:0<2*2-c b f*c f b) (s3:0<2*2-c b d*c d b) {u0 u1 u2 u3:Int}
  (e0:u0=2*(2*2-c d f*c f d)-c b d*(c d b*2-c d f*c f b)+c b f*(c d b*c f d-2*c f b))
  (e1:u1 = -(c b a*(2*2-c d f*c f d)-c b d*(c d a*2-c d f*c f a)+c b f*(c d a*c f d-2*c f a)))
  (e2:u2=c b a*(c d b*2-c d f*c f b)-2*(c d a*2-c d f*c f a)+c b f*(c d a*c f b-c d b*c f a))
  (e3:u3 = -(c b a*(c d b*c f d-2*c f b)-2*(c d a*c f d-2*c f a)+c b d*(c d a*c f b-c d b*c f a)))
  (h0:0<u0) (hdet:2*u0+c a b*u1+c a d*u2+c a f*u3≤0) :
  Bad n c [(a,u0),(b,u1),(d,u2),(f,u3)]:=by
 have xba:=(h.off b a hb ha (fun e=>hab e.symm)).2;have xda:=(h.off d a hd ha (fun e=>had e.symm)).2;have xfa:=(h.off f a hf ha (fun e=>haf e.symm)).2;have xbd:=(h.off b d hb hd hbd).2;have xdb:=(h.off d b hd hb (fun e=>hbd e.symm)).2;have xbf:=(h.off b f hb hf hbf).2;have xfb:=(h.off f b hf hb (fun e=>hbf e.symm)).2;have xdf:=(h.off d f hd hf hdf).2;have xfd:=(h.off f d hf hd (fun e=>hdf e.symm)).2;refine ⟨fun t ht=>?_,fun t ht=>?_,⟨_,List.mem_cons_self ..,h0⟩,fun s hs=>?_⟩
 ·simp at ht; rcases ht with rfl | rfl | rfl | rfl <;> assumption
 ·simp only [List.mem_cons,List.not_mem_nil,or_false] at ht;rcases ht with rfl | rfl | rfl | rfl
  ·show 0≤u0; omega
  ·show 0≤u1;have m1:=mp (show 0≤-(c b a) by omega) (Int.le_of_lt s1);have m2:=mn xbd xda;have m3:=mp (mn xbd xdf) (show 0≤-(c f a) by omega);have m4:=mp (mn xbf xda) (show 0≤-(c f d) by omega);have m5:=mn xbf xfa;rw [e1,ps1 _ _ _ _ 0 _ 0]; omega
  ·show 0≤u2;have m1:=mp (show 0≤-(c d a) by omega) (Int.le_of_lt s2);have m2:=mn xba xdb;have m3:=mp (mn xba xdf) (show 0≤-(c f b) by omega);have m4:=mn xdf xfa;have m5:=mp (mn xbf xdb) (show 0≤-(c f a) by omega);rw [e2,ps2 _ _ _ 0 _ _ _ _ 0]; omega
  ·show 0≤u3;have m1:=mp (show 0≤-(c f a) by omega) (Int.le_of_lt s3);have m2:=mp (mn xba xdb) (show 0≤-(c f d) by omega);have m3:=mn xba xfb;have m4:=mn xda xfd;have m5:=mp (mn xbd xda) (show 0≤-(c f b) by omega);rw [e3,ps3 _ _ _ _ _ 0 _ 0]; omega
 ·simp only [List.mem_cons,List.not_mem_nil,or_false] at hs;rcases hs with rfl | rfl | rfl | rfl
  ·simp only [List.map_cons,List.map_nil,List.sum_cons,List.sum_nil,h.diag a ha];rw [Int.mul_comm u0,Int.mul_comm u1,Int.mul_comm u2,Int.mul_comm u3];omega
  ·simp only [List.map_cons,List.map_nil,List.sum_cons,List.sum_nil,h.diag b hb];rw [e0,e1,e2,e3,id4b]; exact Int.le_refl _
  ·simp only [List.map_cons,List.map_nil,List.sum_cons,List.sum_nil,h.diag d hd];rw [e0,e1,e2,e3,id4d]; exact Int.le_refl _
  ·simp only [List.map_cons,List.map_nil,List.sum_cons,List.sum_nil,h.diag f hf];rw [e0,e1,e2,e3,id4f]; exact Int.le_refl _
end Cox
end Go.Proofs.Ytlchafedbnihoaa
namespace Go.Proofs.Ytlchafedbnihoaa
open Go.RowKit
open Cox (Eqv Rdd Ld Rd)
set_option maxRecDepth 20000
theorem zHq (x:List Int) (i:Nat):toN (x++[(i:Int)])=toN x++[i]:=by simp [toN]
theorem zF9 (x:List Int):toN x.reverse=(toN x).reverse:=by simp [toN]
theorem zB1 (x:List Int):(toN x).length=x.length:=by simp [toN]
theorem zA4 {n:Nat} {x:List Int} (h:Lets n x):Lets n x.reverse:=fun y hy=>h y (List.mem_reverse.1 hy)
theorem zCG {c:List (List Int)} (hc:CartanP c) {x:List Int} (h:Nice c x) (hl:x.length≤27) {i:Nat} (hi:i<c.length) :
  Nice c (zAJ c x i)∧Eqv c.length (ent c) (toN (zAJ c x i)) (Cox.rst (ent c) (toN x) i)∧(Rd (ent c) i (toN x)→zAJ c x i=x)∧(¬Rd (ent c) i (toN x)→(zAJ c x i).length=x.length+1):=by
 have hr:=h.red hc;obtain ⟨h1,h2⟩:=zAV hc (zAS h.lets hi) (by simp; omega);rw [zHq] at h2;have hr2:=h1.red hc;unfold Cox.rst;by_cases a:Rd (ent c) i (toN x)
 ·rw [if_pos a];obtain ⟨x',a1,a2,_,a4⟩:=Cox.exch_left hc.car hi (Cox.lets_rev hr.1) a;have e1:=a4.rev hc.car (Cox.lets_cons' hi (Cox.lets_rev hr.1)) a1;rw [List.reverse_cons,List.reverse_reverse] at e1;have:=hr2.2 x'.reverse (Cox.lets_rev a1) (h2.trans e1);have hlt:(zAB c (x++[(i:Int)])).length<x.length:=by
   rw [zB1,List.length_reverse] at this;rw [List.length_reverse,zB1] at a2;omega
  rw [zCH hlt];exact ⟨h,Eqv.refl _,fun _=>rfl,fun b=>absurd a b⟩
 ·rw [if_neg a];have h3:=(hr.upr hc.car hi a).len hr2 h2.symm;rw [List.length_append,zB1,zB1] at h3;have h3:x.length+1=(zAB c (x++[(i:Int)])).length:=h3;have hlt:¬(zAB c (x++[(i:Int)])).length<x.length:=by omega
  rw [zCm hlt];exact ⟨h1,h2,fun b=>absurd b a,fun _=>h3.symm⟩
theorem zHn {c:List (List Int)} (hc:CartanP c) {x:List Int} (h:Nice c x) (hl:x.length≤27) {i:Nat} (hi:i<c.length):(zAJ c x i).length≤x.length+1:=by
 obtain ⟨_,_,h3,h4⟩:=zCG hc h hl hi;by_cases a:Rd (ent c) i (toN x)
 ·rw [h3 a]; omega
 ·rw [h4 a]; exact zJm _
theorem letN {n:Nat} {i:Int} {l:List Int} (h:Lets n (i::l)):(∃k:Nat,i=(k:Int)∧k<n)∧Lets n l:=by
 have:=h i (by simp);exact ⟨⟨i.toNat,by omega,by omega⟩,fun y hy=>h y (by simp [hy])⟩
theorem zBX {c:List (List Int)} (hc:CartanP c):∀(l:List Int) {x:List Int},Nice c x→Lets c.length l→x.length+l.length≤28 →
  Nice c (zAC c x l)∧Eqv c.length (ent c) (toN (zAC c x l)) (Cox.rsts (ent c) (toN x) (toN l))∧(zAC c x l).length≤x.length+l.length
 | [],x,h,_,_=>⟨h,Eqv.refl _,by simp [zAC]⟩
 | i::l,x,h,hl,hn=>by
  obtain ⟨⟨k,rfl,hk⟩,hll⟩:=letN hl;rw [List.length_cons] at hn;obtain ⟨h1,h2,_⟩:=zCG hc h (by omega) hk;have h3:=zHn hc h (by omega) hk;obtain ⟨a1,a2,a3⟩:=zBX hc l h1 hll (by omega);refine ⟨a1,?_,?_⟩
  ·exact a2.trans (Cox.rsts_eqv hc.car (zAu h1.lets) (Cox.rst_lets (zAu h.lets) hk) (zAu hll) h2)
  ·show (zAC c (zAJ c x k) l).length≤_;rw [List.length_cons]; omega
theorem zFU {c:List (List Int)} (hc:CartanP c) {a b d:List Int} (ha:Nice c a) (hb:Nice c b) (hd:Nice c d) (hn:a.length+b.length+d.length≤28):zAC c (zAC c a b) d=zAC c a (zAC c b d):=by
 obtain ⟨y1,y2,y3⟩:=zBX hc b ha hb.lets (by omega);obtain ⟨l1,l2,l3⟩:=zBX hc d y1 hd.lets (by omega);obtain ⟨e1,e2,e3⟩:=zBX hc d hb hd.lets (by omega);obtain ⟨r1,r2,r3⟩:=zBX hc (zAC c b d) ha e1.lets (by omega);have ra:=ha.red hc;have rb:=hb.red hc;have rd:=hd.red hc;have s1:=Cox.rsts_eqv hc.car (zAu y1.lets) (Cox.rsts_lets ra.1 rb.1) rd.1 y2;have s2:=Cox.star_assoc hc.car ra rb rd (e1.red hc) e2;exact (l1.same hc r1).1 ((zDj hc l1.lets (zAu r1.lets)).2 (l2.trans (s1.trans (s2.trans r2.symm))))
def zAN (c:List (List Int)) (a b:List Int):List Int:=zAC c (zAB c a) (zAB c b)
theorem zBW {c:List (List Int)} (hc:CartanP c) {a b:List Int} (ha:Lets c.length a) (hb:Lets c.length b) (hn:a.length+b.length≤28) :
  Nice c (zAN c a b)∧Eqv c.length (ent c) (toN (zAN c a b)) (Cox.rsts (ent c) (toN (zAB c a)) (toN (zAB c b)))∧(zAN c a b).length≤a.length+b.length:=by
 have a1:=(zAV hc ha (by omega)).1;have b1:=(zAV hc hb (by omega)).1;have a2:=zAz hc ha (by omega);have b2:=zAz hc hb (by omega);obtain ⟨h1,h2,h3⟩:=zBX hc (zAB c b) a1 b1.lets (by omega);exact ⟨h1,h2,Nat.le_trans h3 (by omega)⟩
theorem zFS {c:List (List Int)} (hc:CartanP c) {a b d:List Int} (ha:Lets c.length a) (hb:Lets c.length b) (hd:Lets c.length d) (hn:a.length+b.length+d.length≤28) :
  zAN c (zAN c a b) d=zAN c a (zAN c b d):=by
 have y1:=(zBW hc ha hb (by omega)).1;have e1:=(zBW hc hb hd (by omega)).1;have a1:=(zAV hc ha (by omega)).1;have b1:=(zAV hc hb (by omega)).1;have d1:=(zAV hc hd (by omega)).1;have a2:=zAz hc ha (by omega);have b2:=zAz hc hb (by omega);have d2:=zAz hc hd (by omega);have h:=zFU hc a1 b1 d1 (by omega);show zAC c (zAB c (zAN c a b)) (zAB c d)=zAC c (zAB c a) (zAB c (zAN c b d));rw [y1.nrm,e1.nrm];exact h
theorem zHC {c:List (List Int)} (hc:CartanP c) {a b:List Int} (ha:Lets c.length a) (hb:Lets c.length b) (hn:a.length+b.length≤28) :
  zAK c (zAN c b.reverse a.reverse)=zAK c (zAN c a b).reverse:=by
 obtain ⟨y1,y2,y3⟩:=zBW hc ha hb hn;obtain ⟨i1,i2,i3⟩:=zBW hc (zA4 hb) (zA4 ha) (by simp; omega);obtain ⟨a1,a2⟩:=zAV hc ha (by omega);obtain ⟨b1,b2⟩:=zAV hc hb (by omega);obtain ⟨p1,p2⟩:=zAV hc (zA4 ha) (by simp; omega);obtain ⟨q1,q2⟩:=zAV hc (zA4 hb) (by simp; omega);have ra:=a1.red hc;have rb:=b1.red hc;have rp:=p1.red hc;have rq:=q1.red hc;rw [zF9] at p2 q2;have f1:=p2.trans ((a2.rev hc.car ra.1 (zAu ha)).symm);have f2:=q2.trans ((b2.rev hc.car rb.1 (zAu hb)).symm);have s1:=Cox.rsts_eqv hc.car rq.1 (Cox.lets_rev rb.1) rp.1 f2;have s2:=Cox.star_congr hc.car (rb.rev hc.car) rp (ra.rev hc.car) f1;have s3:=Cox.star_rev hc.car ra rb;have s4:=y2.rev hc.car (zAu y1.lets) (Cox.rsts_lets ra.1 rb.1);have s:=i2.trans (s1.trans (s2.trans (s3.symm.trans s4.symm)));rw [<-zF9] at s;obtain ⟨u1,u2⟩:=zAm hc i1.lets (by have:=i1.len; omega)
 obtain ⟨v1,v2⟩:=zAm hc (zA4 y1.lets) (by have:=y1.len; simp; omega);exact zCW u1 v1 fun k hk=>by rw [u2 k hk,v2 k hk,s.m]
def subB (c:List (List Int)):List Int→List Int→Bool
 | mu,[]=>decide (zAF mu=none)
 | mu,s::v=>subB c (if num mu s.toNat<0 then refl c s.toNat mu else mu) v
theorem zCN {n:Nat} {c:Nat→Nat→Int} {m m':Nat→Int} {w:List Nat} (h:∀k,k<n→m k=m' k):Cox.Part n c m w↔Cox.Part n c m' w :=
 ⟨fun ⟨x,hx,he⟩=>⟨x,hx,fun k hk=>(he k hk).trans (h k hk)⟩,fun ⟨x,hx,he⟩=>⟨x,hx,fun k hk=>(he k hk).trans (h k hk).symm⟩⟩
theorem zG5 {c:List (List Int)} (hc:CartanP c) {mu:List Int} {m:Nat} (h:Im c mu m) (hm:m≤30) {i:Nat} (hi:i<c.length) {k:Nat} (hk:k<c.length):num (refl c i mu) k=Cox.sW (ent c) i (num mu) k:=by
 obtain ⟨hl,w,hw,hwl,hn⟩:=h;rw [zAy hc hl hw (by omega) hn hi hk];unfold Cox.sW;rw [hn k hk,hn i hi]
theorem zCJ {c:List (List Int)} (hc:CartanP c):∀(v:List Int) {mu:List Int} {m:Nat},Im c mu m→m≤29→Lets c.length v→Cox.Part c.length (ent c) (num mu) (toN v)→subB c mu v=true
 | [],mu,m,h,hm,_,hp=>by
  show decide (zAF mu=none)=true;rw [decide_eq_true_eq];obtain ⟨x,hx,he⟩:=hp;have:x=[]:=List.sublist_nil.1 hx;subst this;refine zBn.2 fun y hy=>?_;obtain ⟨k,hk,rfl⟩:=zD9 hy;have hl:mu.length=c.length:=h.1;rw [<-he k (by omega)];simp [Cox.aW,Cox.one]
 | s::v,mu,m,h,hm,hlv,hp=>by
  obtain ⟨⟨i,rfl,hs⟩,hlv'⟩:=letN hlv;have hw:Cox.Lets c.length (toN v):=zAu hlv';have hl:mu.length=c.length:=h.1;have hp:Cox.Part c.length (ent c) (num mu) (i::toN v):=hp;have hne:num mu i≠0:=h.ne hc (x:=num mu i) (by simp [num,hl,hs]);show subB c (if num mu i<0 then refl c i mu else mu) v=true;by_cases hneg:num mu i<0
  ·rw [if_pos hneg];obtain ⟨m',hm',h3⟩:=h.back hc (by omega) (i:=i) (x:=num mu i) (by simp [num,hl,hs]) hneg;exact zCJ hc v h3 (by omega) hlv' ((zCN fun k hk=>zG5 hc h (by omega) hs hk).2 ((Cox.part_down hc.car hs hw hneg).1 hp))
  ·rw [if_neg hneg];exact zCJ hc v h hm hlv' ((Cox.part_up hc.car (m:=num mu) hs hw (by omega)).1.1 hp)
theorem zFT {c:List (List Int)} (hc:CartanP c) {a b:List Int} (ha:Lets c.length a) (hb:Lets c.length b) (hn:a.length+b.length≤28) :
  subB c (zAK c a) (zAB c (zAN c a b))=true∧subB c (zAK c b) (zAB c (zAN c a b))=true:=by
 obtain ⟨y1,y2,y3⟩:=zBW hc ha hb hn;obtain ⟨a1,a2⟩:=zAV hc ha (by omega);obtain ⟨b1,b2⟩:=zAV hc hb (by omega);obtain ⟨h1,h2⟩:=Cox.star_above hc.car (a1.red hc) (b1.red hc) (y1.red hc) y2;rw [y1.nrm];constructor
 ·exact zCJ hc _ (zAb hc ha (by omega)) (by omega) y1.lets ((zCN fun k hk=>by rw [(zAm hc ha (by omega)).2 k hk,a2.m]).2 h1)
 ·exact zCJ hc _ (zAb hc hb (by omega)) (by omega) y1.lets ((zCN fun k hk=>by rw [(zAm hc hb (by omega)).2 k hk,b2.m]).2 h2)
theorem zBe (c:List (List Int)):∀(l x:List Int),x.length≤(zAC c x l).length
 | [],_=>zJm _
 | i::l,x=>by
  refine Nat.le_trans ?_ (zBe c l (zAJ c x i));unfold zAJ;split
  ·exact zJm _
  ·omega
theorem zHB {c:List (List Int)} (hc:CartanP c) {x:List Int} {i:Nat} (hx:Lets c.length x) (hi:i<c.length) (hl:x.length≤29):zAJ c x i=x∨(zAJ c x i).length=x.length+1:=by
 have h:=zCM hc hx hi hl;by_cases a:(zAB c (x++[(i:Int)])).length<x.length
 ·exact .inl (zCH a)
 ·rw [zCm a]; right; omega
theorem zEU {c:List (List Int)} (hc:CartanP c):∀(l:List Int) {x:List Int},Lets c.length x→Lets c.length l→x.length+l.length≤30→zAC c x l=x∨x.length<(zAC c x l).length
 | [],_,_,_,_=>.inl rfl
 | i::l,x,hx,hl,hn=>by
  obtain ⟨⟨k,rfl,hk⟩,hll⟩:=letN hl;rw [List.length_cons] at hn;show zAC c (zAJ c x k) l=x∨x.length<(zAC c (zAJ c x k) l).length;rcases zHB hc hx hk (by omega) with e | e
  ·rw [e]; exact zEU hc l hx hll (by omega)
  ·right;have:=zBe c l (zAJ c x k);omega
theorem zCo {c:List (List Int)} (hc:CartanP c):∀(l:List Int) {x:List Int},Lets c.length x→Lets c.length l→x.length+l.length≤30→Lets c.length (zAC c x l)∧(zAC c x l).length≤x.length+l.length
 | [],_,hx,_,_=>⟨hx,by simp [zAC]⟩
 | i::l,x,hx,hl,hn=>by
  obtain ⟨⟨k,rfl,hk⟩,hll⟩:=letN hl;rw [List.length_cons] at hn;obtain ⟨h1,h2⟩:=zBT hc hx hk (by omega);obtain ⟨h3,h4⟩:=zCo hc l h1 hll (by omega);exact ⟨h3,by show (zAC c (zAJ c x k) l).length≤_; rw [List.length_cons]; omega⟩
theorem zD4 {c:List (List Int)} (hc:CartanP c) {x:List Int} (h:Nice c x) (hx:x.length≤27):∀l:List Int,Lets c.length l→(zAC c x l=x↔∀t∈toN l,Rd (ent c) t (toN x))
 | [],_=>by simp [zAC,toN]
 | i::l,hl=>by
  obtain ⟨⟨k,rfl,hk⟩,hll⟩:=letN hl;obtain ⟨_,_,h3,h4⟩:=zCG hc h hx hk;have ih:=zD4 hc h hx l hll;show zAC c (zAJ c x k) l=x↔∀t∈k::toN l,Rd (ent c) t (toN x);by_cases a:Rd (ent c) k (toN x)
  ·rw [h3 a,ih];exact ⟨fun hh t ht=>by
    rcases List.mem_cons.1 ht with rfl | ht
    ·exact a
    ·exact hh t ht,fun hh t ht=>hh t (List.mem_cons_of_mem _ ht)⟩
  ·refine ⟨fun e=>?_,fun hh=>absurd (hh k (List.mem_cons_self ..)) a⟩;have:=zBe c l (zAJ c x k);rw [e,h4 a] at this;omega
def jN (J:List Int) (k:Nat):Nat:=(J[k]?.getD 0).toNat
theorem zCe {J:List Int} {k:Nat} {x:Int} (h:J[k]? = some x):jN J k=x.toNat:=by unfold jN; rw [h]; rfl
theorem zGH {n:Nat} {J:List Int} (hp:Pts n J) {k:Nat} (hk:k<J.length):jN J k<n:=by
 obtain ⟨i,e,hi⟩:=hp k J[k] (zJi hk);rw [zCe (zJi hk),e];exact hi
theorem zCz {n:Nat} {J:List Int} (hp:Pts n J) (ha:Asc J):∀(q k:Nat),k+1+q<J.length→jN J k<jN J (k+1+q)
 | 0,k,h=>by
  have h0:k+1<J.length:=h;have h1:=ha k _ _ (zJi (show k<J.length by omega)) (zJi h0);obtain ⟨i,e1,_⟩:=hp k _ (zJi (show k<J.length by omega));obtain ⟨i',e2,_⟩:=hp (k+1) _ (zJi h0);show jN J k<jN J (k+1);rw [zCe (zJi (show k<J.length by omega)),zCe (zJi h0)];omega
 | q+1,k,h=>by
  have h1:=zCz hp ha q k (by omega);have h2:=zCz hp ha 0 (k+1+q) (by omega);have e:k+1+(q+1)=k+1+q+1+0:=by omega
  rw [e];omega
theorem zJc {n:Nat} {J:List Int} (hp:Pts n J) (ha:Asc J) {i j:Nat} (hi:i<J.length) (hj:j<J.length) (h:i≠j):jN J i≠jN J j:=by
 rcases Nat.lt_or_gt_of_ne h with h | h
 ·have:=zCz hp ha (j-(i+1)) i (by omega);rw [show i+1+(j-(i+1))=j by omega] at this;omega
 ·have:=zCz hp ha (i-(j+1)) j (by omega);rw [show j+1+(i-(j+1))=i by omega] at this;omega
theorem zD6 (c:List (List Int)) {J:List Int} {i j:Nat} (hi:i<J.length) (hj:j<J.length):ent (subL c J) i j=ent c (jN J i) (jN J j):=by
 have h1:(subL c J)[i]? = some (rowL c J[i] J):=by simp [subL,hi]
 have h2:(rowL c J[i] J)[j]? = some (ent c J[i].toNat J[j].toNat):=by simp [rowL,hj]
 rw [zBD h1 h2,zCe (zJi hi),zCe (zJi hj)]
theorem zEG (c:List (List Int)) (J:List Int):(subL c J).length=J.length:=by simp [subL]
theorem zGJ {n:Nat} {J:List Int} (hp:Pts n J) (ha:Asc J):J.length≤n:=by
 have key:∀k,k<J.length→k≤jN J k:=fun k=>by
  induction k with
  | zero=>intro _; exact Nat.zero_le _
  | succ k ih=>intro h; have:=ih (by omega); have:=zCz hp ha 0 k (by omega); have:jN J k<jN J (k+1):=this; omega
 rcases Nat.eq_zero_or_pos J.length with h | h
 ·omega
 ·have h1:=key (J.length-1) (by omega);have h2:=zGH hp (k:=J.length-1) (by omega);omega
theorem zFH {c:List (List Int)} (hc:CartanP c) {J:List Int} (hp:Pts c.length J) (ha:Asc J) (h0:1≤J.length):CartanP (subL c J):=by
 have hl:=zEG c J;refine ⟨by omega,by have:=zGJ hp ha; have:=hc.le; omega,fun r hr=>?_,fun i j hi hj=>?_⟩
 ·obtain ⟨i,_,rfl⟩:=List.mem_map.1 hr;rw [hl]; simp [rowL]
 ·rw [hl] at hi hj;rw [zD6 c hi hj,zD6 c hj hi];have h:=hc.ok (jN J i) (jN J j) (zGH hp hi) (zGH hp hj);unfold okE at h ⊢;by_cases e:i=j
  ·subst e;simpa using h
  ·rw [if_neg e];rwa [if_neg (zJc hp ha hi hj e)] at h
theorem zDo {c:List (List Int)} {J:List Int}:∀{w:List Nat},Cox.Lets J.length w→∀k,k<J.length→Cox.aW (ent c) (w.map (jN J)) Cox.one (jN J k)=Cox.aW (ent (subL c J)) w Cox.one k
 | [],_,_,_=>rfl
 | i::w,hw,k,hk=>by
  have hi:i<J.length:=hw i (by simp);have ih:=fun k hk=>zDo (c:=c) (J:=J) (w:=w) (fun j hj=>hw j (by simp [hj])) k hk;show Cox.aW (ent c) (w.map (jN J)) Cox.one (jN J k)-Cox.aW (ent c) (w.map (jN J)) Cox.one (jN J i)*ent c (jN J k) (jN J i)=Cox.aW (ent (subL c J)) w Cox.one k-Cox.aW (ent (subL c J)) w Cox.one i*ent (subL c J) k i;rw [ih k hk,ih i hi,zD6 c hk hi]
theorem zGo {c:List (List Int)} {J:List Int} {w:List Nat} (hw:Cox.Lets J.length w) {k:Nat} (hk:k<J.length):Ld (ent c) (jN J k) (w.map (jN J))↔Ld (ent (subL c J)) k w:=by
 unfold Cox.Ld;rw [zDo hw k hk]
theorem zG4 {c:List (List Int)} {J:List Int} {w:List Nat} (hw:Cox.Lets J.length w) {k:Nat} (hk:k<J.length):Rd (ent c) (jN J k) (w.map (jN J))↔Rd (ent (subL c J)) k w:=by
 unfold Cox.Rd;rw [<-List.map_reverse];exact zGo (Cox.lets_rev hw) hk
theorem zFw {c:List (List Int)} (hc:CartanP c) {J:List Int} (hp:Pts c.length J) (ha:Asc J) (h0:1≤J.length):∀{w:List Nat},Cox.Lets J.length w→Rdd c.length (ent c) (w.map (jN J))→Rdd (subL c J).length (ent (subL c J)) w
 | [],_,_=>Rdd.nil
 | i::w,hw,hr=>by
  have hi:i<J.length:=hw i (by simp);have hw':Cox.Lets J.length w:=fun j hj=>hw j (by simp [hj]);obtain ⟨_,h2,h3⟩:=hr.cons hc.car;exact (zFw hc hp ha h0 hw' h2).up (zFH hc hp ha h0).car (by rw [zEG]; exact hi) (mt (zGo hw' hi).2 h3)
theorem zGK {c:List (List Int)} (h:FinP c):Nice c (zAT c)∧∀j,j<c.length→Ld (ent c) j (toN (zAT c)):=by
 obtain ⟨h1,h2⟩:=h.long;have hl:Lets c.length (zAT c):=zCU (zCR h.cart) _ ⟨h1,by omega⟩;have him:zAK c (zAT c)=List.replicate c.length (-1):=zDd h.cart _ h1 (by omega);refine ⟨⟨hl,by omega,by unfold zAB; rw [him]; rfl⟩,fun j hj=>?_⟩;have:=(zAm h.cart hl (by omega)).2 j hj;unfold Cox.Ld;rw [<-this,him];simp [num,hj]
theorem zHT:∀n,n<5→∀k,k<16→(Fin.bits n k).length≤4∧(Fin.bits n k).all (fun i=>decide (i<n))=true∧∀i,i<3→∀a∈(Fin.bits n k)[i]?,∀b∈(Fin.bits n k)[i+1]?,a<b:=by decide
theorem zGd {n k:Nat} (hn:n<5) (hk:k<16) (h1:1≤(Fin.bits n k).length):(∃a,a<n∧Fin.bits n k=[a])∨(∃a b,a<b∧b<n∧Fin.bits n k=[a,b])∨(∃a b d,a<b∧b<d∧d<n∧Fin.bits n k=[a,b,d])∨(∃a b d f,a<b∧b<d∧d<f∧f<n∧Fin.bits n k=[a,b,d,f]):=by
 obtain ⟨h2,h3,h4⟩:=zHT n hn k hk;generalize Fin.bits n k=l at *;rw [List.all_eq_true] at h3
 match l,h1,h2,h3,h4 with
 | [a],_,_,h3,_=>exact .inl ⟨a,by simpa using h3 a (by simp),rfl⟩
 | [a,b],_,_,h3,h4=>exact .inr (.inl ⟨a,b,h4 0 (by omega) a (by simp) b (by simp),by simpa using h3 b (by simp),rfl⟩)
 | [a,b,d],_,_,h3,h4=>exact .inr (.inr (.inl ⟨a,b,d,h4 0 (by omega) a (by simp) b (by simp),h4 1 (by omega) b (by simp) d (by simp),by simpa using h3 d (by simp),rfl⟩))
 | [a,b,d,f],_,_,h3,h4=>exact .inr (.inr (.inr ⟨a,b,d,f,h4 0 (by omega) a (by simp) b (by simp),h4 1 (by omega) b (by simp) d (by simp),h4 2 (by omega) d (by simp) f (by simp),by simpa using h3 f (by simp),rfl⟩))
 | _::_::_::_::_::_,_,h2,_,_=>(first | omega | (simp at h2; done) | (simp at h2; omega))
theorem det1 (c:List (List Int)) (a:Nat):Fin.det 1 (Fin.sub c [a])=Fin.en c a a:=by
 simp [Fin.det,Fin.sum,Fin.sgn,Fin.sub,Fin.en]
theorem det2 (c:List (List Int)) (a b:Nat):Fin.det 2 (Fin.sub c [a,b])=Fin.en c a a*Fin.en c b b-Fin.en c a b*Fin.en c b a:=by
 have e:∀i j,Fin.en c i j=ent c i j:=fun _ _=>rfl;simp only [Fin.sub,e,List.map_cons,List.map_nil];generalize ent c=f;simp [Fin.det,Fin.sum,Fin.sgn,Fin.en,Fin.without,Fin.cut];omega
theorem det3 (c:List (List Int)) (a b d:Nat):Fin.det 3 (Fin.sub c [a,b,d])=Fin.en c a a*(Fin.en c b b*Fin.en c d d-Fin.en c b d*Fin.en c d b)+Fin.en c a b * -(Fin.en c b a*Fin.en c d d-Fin.en c b d*Fin.en c d a)+Fin.en c a d*(Fin.en c b a*Fin.en c d b-Fin.en c b b*Fin.en c d a):=by
 have e:∀i j,Fin.en c i j=ent c i j:=fun _ _=>rfl;simp only [Fin.sub,e,List.map_cons,List.map_nil];generalize ent c=f;simp [Fin.det,Fin.sum,Fin.sgn,Fin.en,Fin.without,Fin.cut]
 grind
theorem det4 (c:List (List Int)) (a b d f:Nat):Fin.det 4 (Fin.sub c [a,b,d,f])=Fin.en c a a*Fin.det 3 (Fin.sub c [b,d,f])
  + Fin.en c a b * -(Fin.en c b a*(Fin.en c d d*Fin.en c f f-Fin.en c d f*Fin.en c f d)-Fin.en c b d*(Fin.en c d a*Fin.en c f f-Fin.en c d f*Fin.en c f a)+Fin.en c b f*(Fin.en c d a*Fin.en c f d-Fin.en c d d*Fin.en c f a))
  + Fin.en c a d*(Fin.en c b a*(Fin.en c d b*Fin.en c f f-Fin.en c d f*Fin.en c f b)-Fin.en c b b*(Fin.en c d a*Fin.en c f f-Fin.en c d f*Fin.en c f a)+Fin.en c b f*(Fin.en c d a*Fin.en c f b-Fin.en c d b*Fin.en c f a))
  + Fin.en c a f * -(Fin.en c b a*(Fin.en c d b*Fin.en c f d-Fin.en c d d*Fin.en c f b)-Fin.en c b b*(Fin.en c d a*Fin.en c f d-Fin.en c d d*Fin.en c f a)+Fin.en c b d*(Fin.en c d a*Fin.en c f b-Fin.en c d b*Fin.en c f a)):=by
 have e:∀i j,Fin.en c i j=ent c i j:=fun _ _=>rfl;simp only [Fin.sub,e,List.map_cons,List.map_nil];generalize ent c=f;simp [Fin.det,Fin.sum,Fin.sgn,Fin.en,Fin.without,Fin.cut]
 grind
theorem zIN {c:List (List Int)} (hc:CartanP c) (hf:Fin.isFin c=false):∃L,Cox.Bad c.length (ent c) L:=by
 have h:=hc.car;have e:∀i j,Fin.en c i j=ent c i j:=fun _ _=>rfl;have hn4:=hc.le;refine Classical.byContradiction fun hno=>?_;have q2:∀a b,a<c.length→b<c.length→a≠b→0<2*2-ent c a b*ent c b a:=fun a b ha hb hab=>by
  refine Decidable.byContradiction fun hd=>hno ⟨_,Cox.bad2 h ha hb hab (by omega)⟩
 have q3:∀a b d,a<c.length→b<c.length→d<c.length→a≠b→a≠d→b≠d→0<2*(2*2-ent c b d*ent c d b)+ent c a b * -(ent c b a*2-ent c b d*ent c d a)+ent c a d*(ent c b a*ent c d b-2*ent c d a):=fun a b d ha hb hd hab had hbd=>by
  refine Decidable.byContradiction fun hx=>hno ⟨_,Cox.bad3 h ha hb hd hab had hbd (q2 b d hb hd hbd) (by omega)⟩
 have hall:Fin.isFin c=true:=by
  unfold Fin.isFin;refine Fin.posUp_iff.2 fun k h1 h2=>?_;have hp:2 ^ c.length≤16:=Nat.pow_le_pow_right (n:=2) (by omega) hn4;have hb:=zFe c.length (by omega) k (by omega) h1 (by omega);unfold Fin.minor;rcases zGd (by omega) (by omega) hb with ⟨a,ha,e1⟩ | ⟨a,b,hab,hb,e1⟩ | ⟨a,b,d,hab,hbd,hd,e1⟩ | ⟨a,b,d,f,hab,hbd,hdf,hf',e1⟩
  ·rw [e1];show 0<Fin.det 1 (Fin.sub c [a]);rw [det1,e,h.diag a ha]; decide
  ·rw [e1];show 0<Fin.det 2 (Fin.sub c [a,b]);have:=q2 a b (by omega) hb (by omega);rw [det2]; simp only [e]; rw [h.diag a (by omega),h.diag b hb]; omega
  ·rw [e1];show 0<Fin.det 3 (Fin.sub c [a,b,d]);have:=q3 a b d (by omega) (by omega) hd (by omega) (by omega) (by omega);rw [det3]; simp only [e]; rw [h.diag a (by omega),h.diag b (by omega),h.diag d hd]; exact this
  ·rw [e1];show 0<Fin.det 4 (Fin.sub c [a,b,d,f]);have k3:=q3 b d f (by omega) (by omega) hf' (by omega) (by omega) (by omega);refine Decidable.byContradiction fun hx=>hno ⟨_,Cox.bad4 h (a:=a) (b:=b) (d:=d) (f:=f) (by omega) (by omega) (by omega) hf' (by omega) (by omega) (by omega) (by omega) (by omega) (by omega)
    (q2 d f (by omega) hf' (by omega)) (q2 b f (by omega) hf' (by omega)) (q2 b d (by omega) (by omega) (by omega)) rfl rfl rfl rfl ?_ ?_⟩
   ·grind
   ·rw [det4,det3] at hx;simp only [e] at hx;rw [h.diag a (by omega),h.diag b (by omega),h.diag d (by omega),h.diag f hf'] at hx
    grind
 rw [hall] at hf;cases hf
theorem zCy {c:List (List Int)} (hc:CartanP c) {x:List Int} (h:Nice c x) (hx:x.length≤15) {J:List Int} (hp:Pts c.length J) (ha:Asc J) (hJ:∀y,y∈J↔y∈x) (h0:1≤J.length) :
  zAC c x x=x↔(finB (subL c J)=true∧(zAT (subL c J)).length=x.length):=by
 have hs:=zFH hc hp ha h0;have hsl:=zEG c J;have hidx:∀t∈toN x,∃k,k<J.length∧jN J k=t:=fun t ht=>by
  obtain ⟨y,hy,rfl⟩:=List.mem_map.1 ht;obtain ⟨k,hk,e⟩:=List.mem_iff_getElem.1 ((hJ y).2 hy);exact ⟨k,hk,by rw [zCe (zJi hk),e]⟩
 obtain ⟨w,hw,hwm⟩:∃w,Cox.Lets J.length w∧w.map (jN J)=toN x:=by
  clear h hJ hx;generalize toN x=l at *
  induction l with
  | nil=>exact ⟨[],fun j hj=>by simp at hj,rfl⟩
  | cons t l ih =>
   obtain ⟨w,h1,h2⟩:=ih fun s hs=>hidx s (List.mem_cons_of_mem _ hs);obtain ⟨k,hk,e⟩:=hidx t (List.mem_cons_self ..);exact ⟨k::w,fun j hj=>by
    rcases List.mem_cons.1 hj with rfl | hj
    ·exact hk
    ·exact h1 j hj,by rw [List.map_cons,e,h2]⟩
 have hr:Rdd (subL c J).length (ent (subL c J)) w:=zFw hc hp ha h0 hw (by rw [hwm]; exact h.red hc);have hwl:w.length=x.length:=by rw [<-zB1 x,<-hwm,List.length_map]
 have key:zAC c x x=x↔∀j,j<(subL c J).length→Rd (ent (subL c J)) j w:=by
  rw [zD4 hc h (by omega) x h.lets,<-hwm,hsl];constructor
  ·intro hh j hj;refine (zG4 hw hj).1 (hh _ ?_);rw [hwm,zCe (zJi hj)];exact List.mem_map.2 ⟨_,(hJ _).1 (List.getElem_mem hj),rfl⟩
  ·intro hh t ht;obtain ⟨j,hj,rfl⟩:=List.mem_map.1 ht;exact (zG4 hw (hw j hj)).2 (hh j (hw j hj))
 rw [key];cases hF:Fin.isFin (subL c J) with
 | true =>
  have hfp:FinP (subL c J):=⟨hs,hF⟩;obtain ⟨l1,l2⟩:=zGK hfp;have hl:=Cox.longest_same hs.car (l1.red hs) l2 hr;rw [hl.2,zB1,hwl];have:finB (subL c J)=true:=by unfold finB; rw [zAR.2 hs,hF]; rfl
  exact ⟨fun e=>⟨this,e⟩,fun e=>e.2⟩
 | false =>
  have:finB (subL c J)=false:=by unfold finB; rw [hF,Bool.and_false]
  rw [this];refine ⟨fun hh=>?_,fun e=>by cases e.1⟩;obtain ⟨L,hb⟩:=zIN hs hF;exact (hb.no hs.car (hr.rev hs.car) hh).elim
end Go.Proofs.Ytlchafedbnihoaa
