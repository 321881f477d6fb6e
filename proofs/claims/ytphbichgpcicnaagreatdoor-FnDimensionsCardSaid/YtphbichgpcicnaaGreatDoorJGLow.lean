/- Parts of reduced words: they do not depend on the word, and from each there is a way up, letter by letter. Plain. No condition. -/
import Derived.Test.YtphbichgpcicnaaGreatDoorJGEl
namespace Go.Proofs.YtphbichgpcicnaaGreatDoor
open Go.RowKit
set_option maxRecDepth 20000
namespace Cox
variable {n:Nat} {c:Nat→Nat→Int}
theorem zEV {i:Nat} {w:List Nat} (hi:i<n) (hw:Lets n w):Lets n (i::w):=fun j hj=>by
 rcases List.mem_cons.1 hj with rfl | hj
 ·exact hi
 ·exact hw j hj
theorem zC1 {x w:List Nat} (hw:Lets n w) (hx:x.Sublist w):Lets n x:=fun j hj=>hw j (hx.subset hj)
theorem zRb {i:Nat} (hi:i<n):Lets n [i]:=zEV hi (fun j hj=>by simp at hj)
theorem zEq (h:Car n c):∀{w:List Nat},Lets n w→Eqv n c (w++w.reverse) []
 | [],_=>Eqv.refl _
 | i::w,hw=>by
  have hi:i<n:=hw i (by simp);have ih:=zEq h (w:=w) (fun j hj=>hw j (by simp [hj]));have e:(i::w)++(i::w).reverse=[i]++((w++w.reverse)++[i]):=by simp
  rw [e];exact ((Eqv.refl [i]).app (ih.app (Eqv.refl [i]))).trans (Eqv.two h hi)
theorem zKO (h:Car n c) {w:List Nat} (hw:Lets n w):Eqv n c (w.reverse++w) []:=by
 have:=zEq h (zAj hw);rwa [List.reverse_reverse] at this
theorem zHL (h:Car n c) {a b:List Nat} (ha:Lets n a) (hb:Lets n b) (k:Eqv n c a b):Eqv n c a.reverse b.reverse:=by
 have h1:Eqv n c (a.reverse++[]) (a.reverse++(b++b.reverse)):=(Eqv.refl _).app (zEq h hb).symm;have h2:Eqv n c (a.reverse++(b++b.reverse)) (a.reverse++(a++b.reverse)):=(Eqv.refl _).app (k.symm.app (Eqv.refl _));have h3:Eqv n c ((a.reverse++a)++b.reverse) ([]++b.reverse):=(zKO h ha).app (Eqv.refl _);rw [List.append_nil] at h1;rw [List.append_assoc] at h3;exact h1.trans (h2.trans h3)
def Red (n:Nat) (c:Nat→Nat→Int) (w:List Nat):Prop:=∀u,Lets n u→Eqv n c w u→w.length≤u.length
theorem zT5 (h:Car n c) {w:List Nat} (hw:Lets n w) {s:Nat} (hs:s<n) (hp:PosA n c w s) (hn:NegA n c w s):False:=by
 have hb:=zCw h (e s) (e s) hw;rw [zEP hs hs,h.diag s hs] at hb;unfold bil at hb;rw [dotN_zero (fun k hk=>by have a:=hp.2 k hk; have b:=hn.2 k hk; omega)] at hb;omega
theorem zUK (h:Car n c) {j:Nat} (hj:j<n):sR n c j (e j)=fun k=>(-1)*e j k+0*e j k:=by
 funext k;unfold sR;rw [dotN_e _ _ _ hj,h.diag j hj];omega
theorem zRq (h:Car n c) {w:List Nat} {j:Nat} (hj:j<n) (hp:PosA n c w j):NegA n c (w++[j]) j:=by
 have one:∀{d:Nat→Nat→Int},Car n d→Pos n (aR n d w (e j))→Neg n (aR n d (w++[j]) (e j)):=fun {d} hd hq k hk=>by
  rw [zBZ];show aR n d w (sR n d j (e j)) k≤0;rw [zUK hd hj,zEk];have:=hq k hk;show -1*aR n d w (e j) k+0*aR n d w (e j) k≤0;omega
 exact ⟨one h hp.1,one h.tr hp.2⟩
theorem zNv {w w':List Nat} {s:Nat} (h:Eqv n c w w') (k:NegA n c w' s):NegA n c w s:=by
 refine ⟨?_,?_⟩
 ·rw [h.r]; exact k.1
 ·rw [h.x]; exact k.2
theorem zFw (h:Car n c) {s:Nat} (hs:s<n) {p:List Nat} (hp:Lets n p) (hpos:PosA n c p s):∀{a:List Nat},Lets n a→NegA n c (a++p) s→∃a',Lets n a'∧a'.length+1=a.length∧a'.Sublist a∧Eqv n c (a++p++[s]) (a'++p)
 | [],_,hn=>absurd hn (fun hn=>zT5 h hp hs hpos hn)
 | k::y,ha,hn=>by
  have hk:k<n:=ha k (by simp);have hy:Lets n y:=fun j hj=>ha j (by simp [hj]);have hyp:Lets n (y++p):=lets_app hy hp;rcases coh h hyp hs with hq | hn'
  ·have hr:=zCU hq.1 hn.1 (fun j hj=>by rw [zD5 hj _ hyp,zGc hs hj]);have hx:=zCU (c:=tr c) hq.2 hn.2 (fun j hj=>by rw [zD5 hj _ hyp,zGc hs hj]);have hb:=zCw h (e s) (e s) hyp;rw [hr,hx,zFp,zEP hk hk,zEP hs hs,h.diag k hk,h.diag s hs] at hb;have p1:=hq.1 k hk;generalize aR n c (y++p) (e s) k=a at *;generalize aR n (tr c) (y++p) (e s) k=b at *;have hab:b*a=1:=by omega
   have ha:a=1:=Int.eq_one_of_mul_eq_one_left p1 hab;have hb1:b=1:=by rw [ha] at hab; omega
   subst ha; subst hb1;have h1:aR n c (y++p) (e s)=e k:=by rw [hr]; funext j; simp
   have h2:aR n (tr c) (y++p) (e s)=e k:=by rw [hx]; funext j; simp
   refine ⟨y,hy,by simp,List.sublist_cons_self _ _,?_⟩;have h3:=comm h hyp hs hk h1 h2;have h4:Eqv n c (k::((y++p)++[s])) ([k]++(k::(y++p))):=(Eqv.refl [k]).app h3;have h5:Eqv n c ([k,k]++(y++p)) ([]++(y++p)):=(Eqv.two h hk).app (Eqv.refl _);exact h4.trans h5
  ·obtain ⟨a',h1,h2,h3,h4⟩:=zFw h hs hp hpos hy hn';exact ⟨k::a',zEV hk h1,by simp; omega,List.Sublist.cons_cons k h3,(Eqv.refl [k]).app h4⟩
def Dn (n:Nat) (c:Nat→Nat→Int) (z x:List Nat):Prop:=∀y,Lets n y→Eqv n c y z→∃y',y'.Sublist y∧y'.length+1=y.length∧Eqv n c y' x
theorem zMO (h:Car n c) {p x':List Nat} {j:Nat} (hj:j<n) (hp:Lets n p) (hx:Lets n x') (h1:PosA n c p j) (h2:PosA n c x'.reverse j):Dn n c (p++j::x') (p++x'):=by
 intro y hy he;have hz:Lets n (p++j::x'):=lets_app hp (zEV hj hx);have e1:=zHL h hy hz he;have e2:(p++j::x').reverse=(x'.reverse++[j])++p.reverse:=by simp
 rw [e2] at e1;have e3:Eqv n c (y.reverse++p) (x'.reverse++[j]):=by
  have a:=e1.app (Eqv.refl p);have b:Eqv n c ((x'.reverse++[j])++(p.reverse++p)) ((x'.reverse++[j])++[]):=(Eqv.refl _).app (zKO h hp);rw [List.append_nil] at b;rw [List.append_assoc (x'.reverse++[j])] at a;exact a.trans b
 obtain ⟨a',b1,b2,b3,b4⟩:=zFw h hj hp h1 (zAj hy) (zNv e3 (zRq h hj h2));refine ⟨a'.reverse,by have:=List.reverse_sublist.2 b3; simpa using this,by simp at b2 ⊢; omega,?_⟩;have f1:Eqv n c (a'++p) x'.reverse:=by
  have g1:=e3.app (Eqv.refl [j]);have g2:Eqv n c (x'.reverse++[j,j]) (x'.reverse++[]):=(Eqv.refl _).app (Eqv.two h hj);rw [List.append_nil] at g2;rw [List.append_assoc x'.reverse] at g1;exact b4.symm.trans (g1.trans g2)
 have f2:Eqv n c a' (x'.reverse++p.reverse):=by
  have g1:Eqv n c ((a'++p)++p.reverse) (x'.reverse++p.reverse):=f1.app (Eqv.refl _);have g2:Eqv n c (a'++(p++p.reverse)) (a'++[]):=(Eqv.refl _).app (zEq h hp);rw [List.append_nil] at g2;rw [List.append_assoc] at g1;exact g2.symm.trans g1
 have f3:=zHL h b1 (lets_app (zAj hx) (zAj hp)) f2;rw [<-List.reverse_append,List.reverse_reverse] at f3;exact f3
theorem zFz (h:Car n c) {x:List Nat} (hx:Lets n x) {j:Nat} (hj:j<n) (hn:NegA n c x.reverse j):∃x2,x2.Sublist x∧x2.length+1=x.length∧Eqv n c (j::x) x2:=by
 obtain ⟨x2,a1,a2,a3,a4⟩:=zEC h hj (zAj hx) hn;have b4:=zHL h (lets_app (zAj hx) (zRb hj)) a1 a4;have e2:(x.reverse++[j]).reverse=j::x:=by simp
 rw [e2] at b4;exact ⟨x2.reverse,by have:=List.reverse_sublist.2 a3; simpa using this,by simp at a2 ⊢; omega,b4⟩
theorem zIq (h:Car n c):∀(w':List Nat) {p x':List Nat},Lets n (p++w')→x'.Sublist w'→Red n c (p++w')→Red n c (p++x')→x'.length<w'.length →
  ∃z,z.Sublist (p++w')∧Red n c z∧z.length=p.length+x'.length+1∧Dn n c z (p++x')
 | [],_,_,_,_,_,_,hl=>by simp at hl
 | j::w1,p,x',hL,hs,hw,hx,hl=>by
  have hj:j<n:=hL j (by simp);have hp:Lets n p:=fun i hi=>hL i (by simp [hi]);have hw1:Lets n w1:=fun i hi=>hL i (by simp [hi]);have e:p++j::w1=(p++[j])++w1:=by simp
  rcases List.sublist_cons_iff.1 hs with hs' | ⟨x1,rfl,hs1⟩
  ·have hxl:Lets n x':=zC1 hw1 hs';have hpos:PosA n c p j:=by
    rcases coh h hp hj with h1 | h1
    ·exact h1
    ·exfalso;obtain ⟨p',a1,a2,_,a4⟩:=zEC h hj hp h1;have:=hw (p'++w1) (lets_app a1 hw1) (by rw [e]; exact a4.app (Eqv.refl _));simp at this;omega
   rcases coh h (zAj hxl) hj with h2 | h2
   ·have hD:=zMO h hj hp hxl hpos h2;refine ⟨p++j::x',(List.Sublist.refl p).append (hs'.cons_cons j),fun u hu he=>?_,by simp; omega,hD⟩;obtain ⟨u',b1,b2,b3⟩:=hD u hu he.symm;have:=hx u' (zC1 hu b1) b3.symm;simp at this ⊢;omega
   ·obtain ⟨x2,a3,a2,b4⟩:=zFz h hxl hj h2;have f:Eqv n c (p++x') ((p++[j])++x2):=by
     have g1:Eqv n c (p++([j,j]++x')) (p++([]++x')):=(Eqv.refl p).app ((Eqv.two h hj).app (Eqv.refl _));have g2:Eqv n c ((p++[j])++(j::x')) ((p++[j])++x2):=(Eqv.refl _).app b4;have g3:p++([j,j]++x')=(p++[j])++(j::x'):=by simp
     rw [g3] at g1;exact g1.symm.trans g2
    have hR:Red n c ((p++[j])++x2):=fun u hu he=>by
     have:=hx u hu (f.trans he);simp at this ⊢;omega
    obtain ⟨z,c1,c2,c3,c4⟩:=zIq h w1 (p:=p++[j]) (x':=x2) (by rw [<-e]; exact hL) (a3.trans hs') (by rw [<-e]; exact hw) hR (by have:=hs'.length_le; omega);refine ⟨z,by rw [e]; exact c1,c2,by simp at c3; omega,fun y hy he=>?_⟩;obtain ⟨y',d1,d2,d3⟩:=c4 y hy he;exact ⟨y',d1,d2,d3.trans f.symm⟩
  ·have e3:p++j::x1=(p++[j])++x1:=by simp
   obtain ⟨z,c1,c2,c3,c4⟩:=zIq h w1 (p:=p++[j]) (x':=x1) (by rw [<-e]; exact hL) hs1 (by rw [<-e]; exact hw) (by rw [<-e3]; exact hx) (by simp at hl; omega);refine ⟨z,by rw [e]; exact c1,c2,by simp at c3 ⊢; omega,by rw [e3]; exact c4⟩
theorem red_sub (h:Car n c):∀{x:List Nat},Lets n x→∃x',x'.Sublist x∧Red n c x'∧Eqv n c x' x
 | [],_=>⟨[],List.Sublist.refl _,fun _ _ _=>Nat.zero_le _,Eqv.refl _⟩
 | s::t,hx=>by
  have hs:s<n:=hx s (by simp);have ht:Lets n t:=fun j hj=>hx j (by simp [hj]);obtain ⟨t',a1,a2,a3⟩:=red_sub h (x:=t) ht;have ht':=zC1 ht a1;rcases coh h (zAj ht') hs with h2 | h2
  ·have hD:=zMO h (p:=[]) hs (fun j hj=>by simp at hj) ht' ⟨fun k _=>by show (0:Int)≤Cox.e s k; unfold Cox.e; split <;> omega,fun k _=>by show (0:Int)≤Cox.e s k; unfold Cox.e; split <;> omega⟩ h2;refine ⟨s::t',a1.cons_cons s,fun u hu he=>?_,(Eqv.refl [s]).app a3⟩;obtain ⟨u',b1,b2,b3⟩:=hD u hu he.symm;have:=a2 u' (zC1 hu b1) b3.symm;simp;omega
  ·obtain ⟨x2,b3,b2,b4⟩:=zFz h ht' hs h2;refine ⟨x2,(b3.trans a1).trans (List.sublist_cons_self _ _),fun u hu he=>?_,b4.symm.trans ((Eqv.refl [s]).app a3)⟩;have g:Eqv n c t' (s::u):=by
    have g1:Eqv n c ([s,s]++t') ([]++t'):=(Eqv.two h hs).app (Eqv.refl _);have g2:Eqv n c ([s]++(s::t')) ([s]++u):=(Eqv.refl [s]).app (b4.trans he);exact g1.symm.trans g2
   have:=a2 (s::u) (zEV hs hu) g;simp at this;omega
theorem part_any (h:Car n c) {w:List Nat} (hw:Lets n w) (hr:Red n c w):∀(d:Nat) {x:List Nat},x.Sublist w→Red n c x→w.length≤x.length+d→∀y,Lets n y→Eqv n c y w→∃y',y'.Sublist y∧Eqv n c y' x
 | 0,x,hs,_,hd,y,_,he=>by
  have:x=w:=hs.eq_of_length_le (by omega);subst this;exact ⟨y,List.Sublist.refl _,he⟩
 | d+1,x,hs,hx,hd,y,hy,he=>by
  by_cases hl:x.length<w.length
  ·obtain ⟨z,z1,z2,z3,z4⟩:=zIq h w (p:=[]) (x':=x) hw hs hr hx hl;obtain ⟨y1,b1,b2⟩:=part_any h hw hr d (x:=z) z1 z2 (by simp at z3; omega) y hy he;obtain ⟨y2,d1,_,d3⟩:=z4 y1 (zC1 hy b1) b2;exact ⟨y2,d1.trans b1,d3⟩
  ·have:x=w:=hs.eq_of_length_le (by omega);subst this;exact ⟨y,List.Sublist.refl _,he⟩
theorem zMU (h:Car n c):∀(N:Nat) (w:List Nat),w.length≤N→Lets n w→(∀k,k<n→aW c w one k=1)→Eqv n c w []
 | _,[],_,_,_=>Eqv.refl _
 | 0,i::w,hN,_,_=>by simp at hN
 | N+1,i::w,hN,hw,h1=>by
  have hi:i<n:=hw i (by simp);have hw':Lets n w:=fun j hj=>hw j (by simp [hj]);have e:aW c w one i-aW c w one i*c i i=1:=h1 i hi;rw [h.diag i hi] at e;have hn:NegA n c w.reverse i:=by
   rcases coh h (zAj hw') hi with hp | hn
   ·rw [zFO h hw' hi] at e;have:=(zDC hp.2).1;omega
   ·exact hn
  obtain ⟨x2,a3,a2,b4⟩:=zFz h hw' hi hn;exact b4.trans (zMU h N x2 (by simp at hN; omega) (zC1 hw' a3) (fun k hk=>by rw [<-b4.m]; exact h1 k hk))
theorem same_eqv (h:Car n c) {w w':List Nat} (hw:Lets n w) (hw':Lets n w') (he:∀k,k<n→aW c w one k=aW c w' one k):Eqv n c w w':=by
 have h1:∀k,k<n→aW c (w'.reverse++w) one k=1:=fun k hk=>by
  rw [zCj,aW_congr h he (zAj hw') k hk,zEl h one hw'];rfl
 have h2:=zMU h _ _ (zWK _) (lets_app (zAj hw') hw) h1;have h3:Eqv n c (w'++(w'.reverse++w)) (w'++[]):=(Eqv.refl w').app h2;have h4:Eqv n c ((w'++w'.reverse)++w) ([]++w):=(zEq h hw').app (Eqv.refl w);rw [List.append_assoc] at h4;rw [List.append_nil] at h3;exact h4.symm.trans h3
end Cox
end Go.Proofs.YtphbichgpcicnaaGreatDoor
namespace Go.Proofs.YtphbichgpcicnaaGreatDoor
open Go.RowKit
set_option maxRecDepth 20000
section
variable {c:List (List Int)}
def PtL (c:List (List Int)) (m w:List Int):Prop:=∃z:List Int,z.Sublist w∧zAf c z=m
theorem zDT {n:Nat} {z w:List Int} (h:Lets n w) (hz:z.Sublist w):Lets n z:=fun x hx=>h x (hz.subset hx)
theorem zUn (z:List Int):(toN z).length=z.length:=by simp [toN]
theorem zUo {z w:List Int} (h:z.Sublist w):(toN z).Sublist (toN w):=h.map _
theorem zUY {y:List Nat} {w:List Int} (h:y.Sublist (toN w)):∃z:List Int,z.Sublist w∧toN z=y:=by
 obtain ⟨z,h1,h2⟩:=List.sublist_map_iff.1 h;exact ⟨z,h1,h2.symm⟩
theorem zMV (hc:CartanP c) {x y:List Int} (hx:Lets c.length x) (hy:Lets c.length y) (lx:x.length≤30) (ly:y.length≤30):Cox.Eqv c.length (ent c) (toN x) (toN y)↔zAf c x=zAf c y:=by
 have n1:=zEU hc hx lx;have n2:=zEU hc hy ly;constructor
 ·intro h;exact zBz (zF3 hc hx lx) (zF3 hc hy ly) (fun k hk=>by rw [n1 k hk,n2 k hk,h.m])
 ·intro h;exact Cox.same_eqv hc.car (zC7 hx) (zC7 hy) (fun k hk=>by rw [<-n1 k hk,<-n2 k hk,h])
theorem zTs (hc:CartanP c) {x:List Int} (hx:Lets c.length x) (lx:x.length≤24) (hl:(zCE c x).length=x.length):Cox.Red c.length (ent c) (toN x):=fun u hu he=>by
 rw [zUn];by_cases hu30:u.length≤30
 ·have him:Im c (zAf c x) u.length:=⟨zF3 hc hx (by omega),u,hu,rfl,fun k hk=>by rw [zEU hc hx (by omega) k hk,he.m]⟩;have:=zEK (zDy hc) u.length ⟨him,hu30⟩;unfold zCE at hl;omega
 ·omega
theorem zTy (hc:CartanP c) {x:List Int} (hx:Lets c.length x) (lx:x.length≤24):Nf c (zCE c x)∧zAf c (zCE c x)=zAf c x:=by
 have e:=zC4 hc x.length (zBo hc hx (by omega)) (by omega);have h1:=zNy hc hx (by omega);have h2:=zKs hc hx (by omega);exact ⟨⟨h1,by omega,by show nf c 30 (zAf c (nf c 30 (zAf c x)))=zCE c x; rw [e]; rfl⟩,e⟩
theorem Nf.red (hc:CartanP c) {x:List Int} (h:Nf c x):Cox.Red c.length (ent c) (toN x):=zTs hc h.lets h.le (by rw [h.nf])
structure Blw (c:List (List Int)) (w y:List Int):Prop where
 nf:Nf c y
 part:PtL c (zAf c y) w
theorem Blw.le (hc:CartanP c) {w y:List Int} (hw:Lets c.length w) (lw:w.length≤24) (h:Blw c w y):y.length≤w.length:=by
 obtain ⟨z,z1,z2⟩:=h.part;have hz:=zDT hw z1;have:=z1.length_le;have h2:=zKs hc hz (by omega);unfold zCE at h2;rw [z2] at h2;have h3:=h.nf.nf;unfold zCE at h3;rw [h3] at h2;omega
theorem zPW (hc:CartanP c) {w y z:List Int} (hw:Lets c.length w) (lw:w.length≤24) (hy:Lets c.length y) (ly:y.length≤24) (hr:Cox.Red c.length (ent c) (toN w)) (he:zAf c y=zAf c w) (hz:z.Sublist w):PtL c (zAf c z) y:=by
 have hzl:=zDT hw hz;have lz:=hz.length_le;obtain ⟨z',s1,s2,s3⟩:=Cox.red_sub hc.car (zC7 hzl);obtain ⟨y',t1,t2⟩:=Cox.part_any hc.car (zC7 hw) hr (toN w).length (s1.trans (zUo hz)) s2 (by omega) (toN y) (zC7 hy) ((zMV hc hy hw (by omega) (by omega)).2 he);obtain ⟨u,u1,rfl⟩:=zUY t1;have:=u1.length_le;exact ⟨u,u1,(zMV hc (zDT hy u1) hzl (by omega) (by omega)).1 (t2.trans s3)⟩
theorem Blw.down (hc:CartanP c) {w y z:List Int} (hw:Lets c.length w) (lw:w.length≤24) (h:Blw c w y) (hz:z.Sublist y):Blw c w (zCE c z):=by
 have hzl:=zDT h.nf.lets hz;have:=hz.length_le;have hle:=h.nf.le;obtain ⟨n1,n2⟩:=zTy hc hzl (by omega);obtain ⟨y1,p1,p2⟩:=h.part;have:=p1.length_le;obtain ⟨z',q1,q2⟩:=zPW hc h.nf.lets hle (zDT hw p1) (by omega) (h.nf.red hc) p2 hz;exact ⟨n1,z',q1.trans p1,by rw [n2,q2]⟩
end
end Go.Proofs.YtphbichgpcicnaaGreatDoor
