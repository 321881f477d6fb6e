/- Parts of reduced words: they do not depend on the word, and from each there is a way up, letter by letter. Plain. No condition. -/
import Derived.Test.YtlchafedbnihoaaGreatJGMrg
import Derived.Test.YtlchafedbnihoaaGreatJGRpS
import Derived.Test.YtlchafedbnihoaaGreatJGWsR
namespace Go.Proofs.YtlchafedbnihoaaGreat
open Go.RowKit
set_option maxRecDepth 20000
namespace Cox
variable {n:Nat} {c:Nat→Nat→Int}
theorem zCJ {i:Nat} {w:List Nat} (hi:i<n) (hw:Lets n w):Lets n (i::w):=fun j hj=>by
 rcases List.mem_cons.1 hj with rfl | hj
 ·exact hi
 ·exact hw j hj
theorem zCK {x w:List Nat} (hw:Lets n w) (hx:x.Sublist w):Lets n x:=fun j hj=>hw j (hx.subset hj)
theorem zMt {i:Nat} (hi:i<n):Lets n [i]:=zCJ hi (fun j hj=>by simp at hj)
theorem zEE (h:Car n c):∀{w:List Nat},Lets n w→Eqv n c (w++w.reverse) []
 | [],_=>Eqv.refl _
 | i::w,hw=>by
  have hi:i<n:=hw i (by simp);have ih:=zEE h (w:=w) (fun j hj=>hw j (by simp [hj]));have e:(i::w)++(i::w).reverse=[i]++((w++w.reverse)++[i]):=by simp
  rw [e];exact ((Eqv.refl [i]).app (ih.app (Eqv.refl [i]))).trans (Eqv.two h hi)
theorem zIG (h:Car n c) {w:List Nat} (hw:Lets n w):Eqv n c (w.reverse++w) []:=by
 have:=zEE h (lets_rev hw);rwa [List.reverse_reverse] at this
theorem zFr (h:Car n c) {a b:List Nat} (ha:Lets n a) (hb:Lets n b) (k:Eqv n c a b):Eqv n c a.reverse b.reverse:=by
 have h1:Eqv n c (a.reverse++[]) (a.reverse++(b++b.reverse)):=(Eqv.refl _).app (zEE h hb).symm;have h2:Eqv n c (a.reverse++(b++b.reverse)) (a.reverse++(a++b.reverse)):=(Eqv.refl _).app (k.symm.app (Eqv.refl _));have h3:Eqv n c ((a.reverse++a)++b.reverse) ([]++b.reverse):=(zIG h ha).app (Eqv.refl _);rw [List.append_nil] at h1;rw [List.append_assoc] at h3;exact h1.trans (h2.trans h3)
def Red (n:Nat) (c:Nat→Nat→Int) (w:List Nat):Prop:=∀u,Lets n u→Eqv n c w u→w.length≤u.length
theorem zOj (h:Car n c) {w:List Nat} (hw:Lets n w) {s:Nat} (hs:s<n) (hp:PosA n c w s) (hn:NegA n c w s):False:=by
 have hb:=zCP h (e s) (e s) hw;rw [zCx hs hs,h.diag s hs] at hb;unfold bil at hb;rw [zDt (fun k hk=>by have a:=hp.2 k hk; have b:=hn.2 k hk; omega)] at hb;omega
theorem zOv (h:Car n c) {j:Nat} (hj:j<n):sR n c j (e j)=fun k=>(-1)*e j k+0*e j k:=by
 funext k;unfold sR;rw [dotN_e _ _ _ hj,h.diag j hj];omega
theorem zM7 (h:Car n c) {w:List Nat} {j:Nat} (hj:j<n) (hp:PosA n c w j):NegA n c (w++[j]) j:=by
 have one:∀{d:Nat→Nat→Int},Car n d→Pos n (aR n d w (e j))→Neg n (aR n d (w++[j]) (e j)):=fun {d} hd hq k hk=>by
  rw [zA2];show aR n d w (sR n d j (e j)) k≤0;rw [zOv hd hj,zDe];have:=hq k hk;show -1*aR n d w (e j) k+0*aR n d w (e j) k≤0;omega
 exact ⟨one h hp.1,one h.tr hp.2⟩
theorem zKb {w w':List Nat} {s:Nat} (h:Eqv n c w w') (k:NegA n c w' s):NegA n c w s:=by
 refine ⟨?_,?_⟩
 ·rw [h.r]; exact k.1
 ·rw [h.x]; exact k.2
theorem zEw (h:Car n c) {s:Nat} (hs:s<n) {p:List Nat} (hp:Lets n p) (hpos:PosA n c p s):∀{a:List Nat},Lets n a→NegA n c (a++p) s→∃a',Lets n a'∧a'.length+1=a.length∧a'.Sublist a∧Eqv n c (a++p++[s]) (a'++p)
 | [],_,hn=>absurd hn (fun hn=>zOj h hp hs hpos hn)
 | k::y,ha,hn=>by
  have hk:k<n:=ha k (by simp);have hy:Lets n y:=fun j hj=>ha j (by simp [hj]);have hyp:Lets n (y++p):=lets_app hy hp;rcases coh h hyp hs with hq | hn'
  ·have hr:=zBp hq.1 hn.1 (fun j hj=>by rw [zCv hj _ hyp,zDu hs hj]);have hx:=zBp (c:=tr c) hq.2 hn.2 (fun j hj=>by rw [zCv hj _ hyp,zDu hs hj]);have hb:=zCP h (e s) (e s) hyp;rw [hr,hx,zDo,zCx hk hk,zCx hs hs,h.diag k hk,h.diag s hs] at hb;have p1:=hq.1 k hk;generalize aR n c (y++p) (e s) k=a at *;generalize aR n (tr c) (y++p) (e s) k=b at *;have hab:b*a=1:=by omega
   have ha:a=1:=Int.eq_one_of_mul_eq_one_left p1 hab;have hb1:b=1:=by rw [ha] at hab; omega
   subst ha; subst hb1;have h1:aR n c (y++p) (e s)=e k:=by rw [hr]; funext j; simp
   have h2:aR n (tr c) (y++p) (e s)=e k:=by rw [hx]; funext j; simp
   refine ⟨y,hy,by simp,List.sublist_cons_self _ _,?_⟩;have h3:=comm h hyp hs hk h1 h2;have h4:Eqv n c (k::((y++p)++[s])) ([k]++(k::(y++p))):=(Eqv.refl [k]).app h3;have h5:Eqv n c ([k,k]++(y++p)) ([]++(y++p)):=(Eqv.two h hk).app (Eqv.refl _);exact h4.trans h5
  ·obtain ⟨a',h1,h2,h3,h4⟩:=zEw h hs hp hpos hy hn';exact ⟨k::a',zCJ hk h1,by simp; omega,List.Sublist.cons_cons k h3,(Eqv.refl [k]).app h4⟩
def Dn (n:Nat) (c:Nat→Nat→Int) (z x:List Nat):Prop:=∀y,Lets n y→Eqv n c y z→∃y',y'.Sublist y∧y'.length+1=y.length∧Eqv n c y' x
theorem zJi (h:Car n c) {p x':List Nat} {j:Nat} (hj:j<n) (hp:Lets n p) (hx:Lets n x') (h1:PosA n c p j) (h2:PosA n c x'.reverse j):Dn n c (p++j::x') (p++x'):=by
 intro y hy he;have hz:Lets n (p++j::x'):=lets_app hp (zCJ hj hx);have e1:=zFr h hy hz he;have e2:(p++j::x').reverse=(x'.reverse++[j])++p.reverse:=by simp
 rw [e2] at e1;have e3:Eqv n c (y.reverse++p) (x'.reverse++[j]):=by
  have a:=e1.app (Eqv.refl p);have b:Eqv n c ((x'.reverse++[j])++(p.reverse++p)) ((x'.reverse++[j])++[]):=(Eqv.refl _).app (zIG h hp);rw [List.append_nil] at b;rw [List.append_assoc (x'.reverse++[j])] at a;exact a.trans b
 obtain ⟨a',b1,b2,b3,b4⟩:=zEw h hj hp h1 (lets_rev hy) (zKb e3 (zM7 h hj h2));refine ⟨a'.reverse,by have:=List.reverse_sublist.2 b3; simpa using this,by simp at b2 ⊢; omega,?_⟩;have f1:Eqv n c (a'++p) x'.reverse:=by
  have g1:=e3.app (Eqv.refl [j]);have g2:Eqv n c (x'.reverse++[j,j]) (x'.reverse++[]):=(Eqv.refl _).app (Eqv.two h hj);rw [List.append_nil] at g2;rw [List.append_assoc x'.reverse] at g1;exact b4.symm.trans (g1.trans g2)
 have f2:Eqv n c a' (x'.reverse++p.reverse):=by
  have g1:Eqv n c ((a'++p)++p.reverse) (x'.reverse++p.reverse):=f1.app (Eqv.refl _);have g2:Eqv n c (a'++(p++p.reverse)) (a'++[]):=(Eqv.refl _).app (zEE h hp);rw [List.append_nil] at g2;rw [List.append_assoc] at g1;exact g2.symm.trans g1
 have f3:=zFr h b1 (lets_app (lets_rev hx) (lets_rev hp)) f2;rw [<-List.reverse_append,List.reverse_reverse] at f3;exact f3
theorem zEz (h:Car n c) {x:List Nat} (hx:Lets n x) {j:Nat} (hj:j<n) (hn:NegA n c x.reverse j):∃x2,x2.Sublist x∧x2.length+1=x.length∧Eqv n c (j::x) x2:=by
 obtain ⟨x2,a1,a2,a3,a4⟩:=zCF h hj (lets_rev hx) hn;have b4:=zFr h (lets_app (lets_rev hx) (zMt hj)) a1 a4;have e2:(x.reverse++[j]).reverse=j::x:=by simp
 rw [e2] at b4;exact ⟨x2.reverse,by have:=List.reverse_sublist.2 a3; simpa using this,by simp at a2 ⊢; omega,b4⟩
theorem zFf (h:Car n c):∀(w':List Nat) {p x':List Nat},Lets n (p++w')→x'.Sublist w'→Red n c (p++w')→Red n c (p++x')→x'.length<w'.length →
  ∃z,z.Sublist (p++w')∧Red n c z∧z.length=p.length+x'.length+1∧Dn n c z (p++x')
 | [],_,_,_,_,_,_,hl=>by simp at hl
 | j::w1,p,x',hL,hs,hw,hx,hl=>by
  have hj:j<n:=hL j (by simp);have hp:Lets n p:=fun i hi=>hL i (by simp [hi]);have hw1:Lets n w1:=fun i hi=>hL i (by simp [hi]);have e:p++j::w1=(p++[j])++w1:=by simp
  rcases List.sublist_cons_iff.1 hs with hs' | ⟨x1,rfl,hs1⟩
  ·have hxl:Lets n x':=zCK hw1 hs';have hpos:PosA n c p j:=by
    rcases coh h hp hj with h1 | h1
    ·exact h1
    ·exfalso;obtain ⟨p',a1,a2,_,a4⟩:=zCF h hj hp h1;have:=hw (p'++w1) (lets_app a1 hw1) (by rw [e]; exact a4.app (Eqv.refl _));simp at this;omega
   rcases coh h (lets_rev hxl) hj with h2 | h2
   ·have hD:=zJi h hj hp hxl hpos h2;refine ⟨p++j::x',(List.Sublist.refl p).append (hs'.cons_cons j),fun u hu he=>?_,by simp; omega,hD⟩;obtain ⟨u',b1,b2,b3⟩:=hD u hu he.symm;have:=hx u' (zCK hu b1) b3.symm;simp at this ⊢;omega
   ·obtain ⟨x2,a3,a2,b4⟩:=zEz h hxl hj h2;have f:Eqv n c (p++x') ((p++[j])++x2):=by
     have g1:Eqv n c (p++([j,j]++x')) (p++([]++x')):=(Eqv.refl p).app ((Eqv.two h hj).app (Eqv.refl _));have g2:Eqv n c ((p++[j])++(j::x')) ((p++[j])++x2):=(Eqv.refl _).app b4;have g3:p++([j,j]++x')=(p++[j])++(j::x'):=by simp
     rw [g3] at g1;exact g1.symm.trans g2
    have hR:Red n c ((p++[j])++x2):=fun u hu he=>by
     have:=hx u hu (f.trans he);simp at this ⊢;omega
    obtain ⟨z,c1,c2,c3,c4⟩:=zFf h w1 (p:=p++[j]) (x':=x2) (by rw [<-e]; exact hL) (a3.trans hs') (by rw [<-e]; exact hw) hR (by have:=hs'.length_le; omega);refine ⟨z,by rw [e]; exact c1,c2,by simp at c3; omega,fun y hy he=>?_⟩;obtain ⟨y',d1,d2,d3⟩:=c4 y hy he;exact ⟨y',d1,d2,d3.trans f.symm⟩
  ·have e3:p++j::x1=(p++[j])++x1:=by simp
   obtain ⟨z,c1,c2,c3,c4⟩:=zFf h w1 (p:=p++[j]) (x':=x1) (by rw [<-e]; exact hL) hs1 (by rw [<-e]; exact hw) (by rw [<-e3]; exact hx) (by simp at hl; omega);refine ⟨z,by rw [e]; exact c1,c2,by simp at c3 ⊢; omega,by rw [e3]; exact c4⟩
theorem red_sub (h:Car n c):∀{x:List Nat},Lets n x→∃x',x'.Sublist x∧Red n c x'∧Eqv n c x' x
 | [],_=>⟨[],List.Sublist.refl _,fun _ _ _=>Nat.zero_le _,Eqv.refl _⟩
 | s::t,hx=>by
  have hs:s<n:=hx s (by simp);have ht:Lets n t:=fun j hj=>hx j (by simp [hj]);obtain ⟨t',a1,a2,a3⟩:=red_sub h (x:=t) ht;have ht':=zCK ht a1;rcases coh h (lets_rev ht') hs with h2 | h2
  ·have hD:=zJi h (p:=[]) hs (fun j hj=>by simp at hj) ht' ⟨fun k _=>by show (0:Int)≤Cox.e s k; unfold Cox.e; split <;> omega,fun k _=>by show (0:Int)≤Cox.e s k; unfold Cox.e; split <;> omega⟩ h2;refine ⟨s::t',a1.cons_cons s,fun u hu he=>?_,(Eqv.refl [s]).app a3⟩;obtain ⟨u',b1,b2,b3⟩:=hD u hu he.symm;have:=a2 u' (zCK hu b1) b3.symm;simp;omega
  ·obtain ⟨x2,b3,b2,b4⟩:=zEz h ht' hs h2;refine ⟨x2,(b3.trans a1).trans (List.sublist_cons_self _ _),fun u hu he=>?_,b4.symm.trans ((Eqv.refl [s]).app a3)⟩;have g:Eqv n c t' (s::u):=by
    have g1:Eqv n c ([s,s]++t') ([]++t'):=(Eqv.two h hs).app (Eqv.refl _);have g2:Eqv n c ([s]++(s::t')) ([s]++u):=(Eqv.refl [s]).app (b4.trans he);exact g1.symm.trans g2
   have:=a2 (s::u) (zCJ hs hu) g;simp at this;omega
theorem part_any (h:Car n c) {w:List Nat} (hw:Lets n w) (hr:Red n c w):∀(d:Nat) {x:List Nat},x.Sublist w→Red n c x→w.length≤x.length+d→∀y,Lets n y→Eqv n c y w→∃y',y'.Sublist y∧Eqv n c y' x
 | 0,x,hs,_,hd,y,_,he=>by
  have:x=w:=hs.eq_of_length_le (by omega);subst this;exact ⟨y,List.Sublist.refl _,he⟩
 | d+1,x,hs,hx,hd,y,hy,he=>by
  by_cases hl:x.length<w.length
  ·obtain ⟨z,z1,z2,z3,z4⟩:=zFf h w (p:=[]) (x':=x) hw hs hr hx hl;obtain ⟨y1,b1,b2⟩:=part_any h hw hr d (x:=z) z1 z2 (by simp at z3; omega) y hy he;obtain ⟨y2,d1,_,d3⟩:=z4 y1 (zCK hy b1) b2;exact ⟨y2,d1.trans b1,d3⟩
  ·have:x=w:=hs.eq_of_length_le (by omega);subst this;exact ⟨y,List.Sublist.refl _,he⟩
theorem part_cover (h:Car n c) {w:List Nat} (hw:Lets n w) (hr:Red n c w):∀(d:Nat) {x:List Nat},x.Sublist w→Red n c x→x.length<w.length→w.length≤x.length+d→∃z,z.Sublist w∧z.length+1=w.length∧Red n c z∧∃x',x'.Sublist z∧Eqv n c x' x
 | 0,x,_,_,hl,hd=>by omega
 | d+1,x,hs,hx,hl,hd=>by
  by_cases h1:x.length+1=w.length
  ·exact ⟨x,hs,h1,hx,x,List.Sublist.refl _,Eqv.refl _⟩
  ·obtain ⟨z,z1,z2,z3,z4⟩:=zFf h w (p:=[]) (x':=x) hw hs hr hx hl;simp at z3;obtain ⟨y,y1,y2,y3,z',t1,t2⟩:=part_cover h hw hr d (x:=z) z1 z2 (by omega) (by omega);obtain ⟨x'',u1,_,u3⟩:=z4 z' (zCK (zCK hw y1) t1) t2;exact ⟨y,y1,y2,y3,x'',u1.trans t1,u3⟩
theorem zJn (h:Car n c):∀(N:Nat) (w:List Nat),w.length≤N→Lets n w→(∀k,k<n→aW c w one k=1)→Eqv n c w []
 | _,[],_,_,_=>Eqv.refl _
 | 0,i::w,hN,_,_=>by simp at hN
 | N+1,i::w,hN,hw,h1=>by
  have hi:i<n:=hw i (by simp);have hw':Lets n w:=fun j hj=>hw j (by simp [hj]);have e:aW c w one i-aW c w one i*c i i=1:=h1 i hi;rw [h.diag i hi] at e;have hn:NegA n c w.reverse i:=by
   rcases coh h (lets_rev hw') hi with hp | hn
   ·rw [zC2 h hw' hi] at e;have:=(zBW hp.2).1;omega
   ·exact hn
  obtain ⟨x2,a3,a2,b4⟩:=zEz h hw' hi hn;exact b4.trans (zJn h N x2 (by simp at hN; omega) (zCK hw' a3) (fun k hk=>by rw [<-b4.m]; exact h1 k hk))
theorem same_eqv (h:Car n c) {w w':List Nat} (hw:Lets n w) (hw':Lets n w') (he:∀k,k<n→aW c w one k=aW c w' one k):Eqv n c w w':=by
 have h1:∀k,k<n→aW c (w'.reverse++w) one k=1:=fun k hk=>by
  rw [aW_append,aW_congr h he (lets_rev hw') k hk,zCW h one hw'];rfl
 have h2:=zJn h _ _ (zQd _) (lets_app (lets_rev hw') hw) h1;have h3:Eqv n c (w'++(w'.reverse++w)) (w'++[]):=(Eqv.refl w').app h2;have h4:Eqv n c ((w'++w'.reverse)++w) ([]++w):=(zEE h hw').app (Eqv.refl w);rw [List.append_assoc] at h4;rw [List.append_nil] at h3;exact h4.symm.trans h3
end Cox
end Go.Proofs.YtlchafedbnihoaaGreat
namespace Go.Proofs.YtlchafedbnihoaaGreat
open Go.RowKit
set_option maxRecDepth 20000
section
variable {c:List (List Int)}
def PtL (c:List (List Int)) (m w:List Int):Prop:=∃z:List Int,z.Sublist w∧zAC c z=m
theorem zAv {n:Nat} {z w:List Int} (h:Lets n w) (hz:z.Sublist w):Lets n z:=fun x hx=>h x (hz.subset hx)
theorem zDD (z:List Int):(toN z).length=z.length:=by simp [toN]
theorem zKH {z w:List Int} (h:z.Sublist w):(toN z).Sublist (toN w):=h.map _
theorem zFe {y:List Nat} {w:List Int} (h:y.Sublist (toN w)):∃z:List Int,z.Sublist w∧toN z=y:=by
 obtain ⟨z,h1,h2⟩:=List.sublist_map_iff.1 h;exact ⟨z,h1,h2.symm⟩
theorem zEF (hc:CartanP c) {x y:List Int} (hx:Lets c.length x) (hy:Lets c.length y) (lx:x.length≤30) (ly:y.length≤30):Cox.Eqv c.length (ent c) (toN x) (toN y)↔zAC c x=zAC c y:=by
 have n1:=zBy hc hx lx;have n2:=zBy hc hy ly;constructor
 ·intro h;exact zC9 (zDK hc hx lx) (zDK hc hy ly) (fun k hk=>by rw [n1 k hk,n2 k hk,h.m])
 ·intro h;exact Cox.same_eqv hc.car (zBf hx) (zBf hy) (fun k hk=>by rw [<-n1 k hk,<-n2 k hk,h])
theorem zON (hc:CartanP c) {x:List Int} (hx:Lets c.length x) (lx:x.length≤24) (hl:(zAB c x).length=x.length):Cox.Red c.length (ent c) (toN x):=fun u hu he=>by
 rw [zDD];by_cases hu30:u.length≤30
 ·have him:Im c (zAC c x) u.length:=⟨zDK hc hx (by omega),u,hu,rfl,fun k hk=>by rw [zBy hc hx (by omega) k hk,he.m]⟩;have:=zEK (zDb hc) u.length ⟨him,hu30⟩;unfold zAB at hl;omega
 ·omega
theorem zBl (hc:CartanP c) {x:List Int} (hx:Lets c.length x) (lx:x.length≤24):Nf c (zAB c x)∧zAC c (zAB c x)=zAC c x:=by
 have e:=zBH hc x.length (zAV hc hx (by omega)) (by omega);have h1:=zDX hc hx (by omega);have h2:=zAj hc hx (by omega);exact ⟨⟨h1,by omega,by show nf c 30 (zAC c (nf c 30 (zAC c x)))=zAB c x; rw [e]; rfl⟩,e⟩
theorem zOs (hc:CartanP c) {x:List Int} (hx:Lets c.length x) (lx:x.length≤24) (hr:Cox.Red c.length (ent c) (toN x)):(zAB c x).length=x.length:=by
 obtain ⟨h1,h2⟩:=zBl hc hx lx;have:=hr (toN (zAB c x)) (zBf h1.lets) ((zEF hc hx h1.lets (by omega) (by have:=h1.le; omega)).2 h2.symm);rw [zDD,zDD] at this;have:=zAj hc hx (by omega);omega
theorem Nf.red (hc:CartanP c) {x:List Int} (h:Nf c x):Cox.Red c.length (ent c) (toN x):=zON hc h.lets h.le (by rw [h.nf])
structure Blw (c:List (List Int)) (w y:List Int):Prop where
 nf:Nf c y
 part:PtL c (zAC c y) w
theorem Blw.le (hc:CartanP c) {w y:List Int} (hw:Lets c.length w) (lw:w.length≤24) (h:Blw c w y):y.length≤w.length:=by
 obtain ⟨z,z1,z2⟩:=h.part;have hz:=zAv hw z1;have:=z1.length_le;have h2:=zAj hc hz (by omega);unfold zAB at h2;rw [z2] at h2;have h3:=h.nf.nf;unfold zAB at h3;rw [h3] at h2;omega
theorem zHb (hc:CartanP c) {w y z:List Int} (hw:Lets c.length w) (lw:w.length≤24) (hy:Lets c.length y) (ly:y.length≤24) (hr:Cox.Red c.length (ent c) (toN w)) (he:zAC c y=zAC c w) (hz:z.Sublist w):PtL c (zAC c z) y:=by
 have hzl:=zAv hw hz;have lz:=hz.length_le;obtain ⟨z',s1,s2,s3⟩:=Cox.red_sub hc.car (zBf hzl);obtain ⟨y',t1,t2⟩:=Cox.part_any hc.car (zBf hw) hr (toN w).length (s1.trans (zKH hz)) s2 (by omega) (toN y) (zBf hy) ((zEF hc hy hw (by omega) (by omega)).2 he);obtain ⟨u,u1,rfl⟩:=zFe t1;have:=u1.length_le;exact ⟨u,u1,(zEF hc (zAv hy u1) hzl (by omega) (by omega)).1 (t2.trans s3)⟩
theorem Blw.down (hc:CartanP c) {w y z:List Int} (hw:Lets c.length w) (lw:w.length≤24) (h:Blw c w y) (hz:z.Sublist y):Blw c w (zAB c z):=by
 have hzl:=zAv h.nf.lets hz;have:=hz.length_le;have hle:=h.nf.le;obtain ⟨n1,n2⟩:=zBl hc hzl (by omega);obtain ⟨y1,p1,p2⟩:=h.part;have:=p1.length_le;obtain ⟨z',q1,q2⟩:=zHb hc h.nf.lets hle (zAv hw p1) (by omega) (h.nf.red hc) p2 hz;exact ⟨n1,z',q1.trans p1,by rw [n2,q2]⟩
theorem zHh {α:Type}:∀{z l:List α},z.Sublist l→z.length+1=l.length→∃k,k<l.length∧z=l.eraseIdx k
 | _,_,List.Sublist.slnil,h=>by simp at h
 | z,a::l,List.Sublist.cons _ hs,h=>⟨0,by simp,by simpa using hs.eq_of_length_le (by simp at h; omega)⟩
 | _::z,a::l,List.Sublist.cons_cons _ hs,h=>by
  obtain ⟨k,h1,h2⟩:=zHh hs (by simpa using h);exact ⟨k+1,by simp; omega,by simp [h2]⟩
def covF (c:List (List Int)) (x:List Int) (out:List (List Int)) (k:Nat):List (List Int):=if (zAB c (x.eraseIdx k)).length+1=x.length then putE (zAB c (x.eraseIdx k)) out else out
def covL (c:List (List Int)) (x:List Int):List (List Int):=(List.range x.length).foldl (covF c x) []
theorem zF0 {x y:List Int}:∀(m:Nat),y∈(List.range m).foldl (covF c x) []↔∃k,k<m∧(zAB c (x.eraseIdx k)).length+1=x.length∧y=zAB c (x.eraseIdx k)
 | 0=>by simp
 | m+1=>by
  rw [List.range_succ,List.foldl_append];show y∈covF c x ((List.range m).foldl (covF c x) []) m↔_;unfold covF;have ih:=zF0 (x:=x) (y:=y) m;unfold covF at ih;by_cases h:(zAB c (x.eraseIdx m)).length+1=x.length
  ·rw [if_pos h,zEb,ih];constructor
   ·rintro (rfl | ⟨k,h1,h2⟩)
    ·exact ⟨m,by omega,h,rfl⟩
    ·exact ⟨k,by omega,h2⟩
   ·rintro ⟨k,h1,h2,h3⟩;rcases Nat.lt_or_ge k m with h4 | h4
    ·exact .inr ⟨k,h4,h2,h3⟩
    ·have:k=m:=by omega
     subst this;exact .inl h3
  ·rw [if_neg h,ih];constructor
   ·rintro ⟨k,h1,h2⟩; exact ⟨k,by omega,h2⟩
   ·rintro ⟨k,h1,h2,h3⟩;rcases Nat.lt_or_ge k m with h4 | h4
    ·exact ⟨k,h4,h2,h3⟩
    ·have:k=m:=by omega
     subst this;exact absurd h2 h
theorem zF1 {x y:List Int}:y∈covL c x↔∃k,k<x.length∧(zAB c (x.eraseIdx k)).length+1=x.length∧y=zAB c (x.eraseIdx k):=zF0 _
theorem zIu (v:List Int):∀l:List (List Int),(putE v l).length≤l.length+1
 | []=>by simp [putE]
 | x::l=>by
  have:=zIu v l;unfold putE;split
  ·simp
  ·split
   ·simp
   ·simp; omega
theorem zFq {x:List Int}:∀(m:Nat),((List.range m).foldl (covF c x) []).length≤m
 | 0=>by simp
 | m+1=>by
  rw [List.range_succ,List.foldl_append];show (covF c x ((List.range m).foldl (covF c x) []) m).length≤m+1;have:=zFq (x:=x) m;unfold covF at this ⊢;split
  ·have:=zIu (zAB c (x.eraseIdx m)) ((List.range m).foldl (covF c x) []);unfold covF at this;omega
  ·omega
def zBS:List (List Int)→List (List Int)→Option (List (List Int))
 | [],q=>some q
 | y::l,q=>if y∈q then zBS l q else if 200≤q.length then none else zBS l (q++[y])
def zCR (c:List (List Int)):Nat→Nat→List (List Int)→Option (List (List Int))
 | 0,_,q=>some q
 |f+1,k,q=>match q[k]? with
  | none=>some q
  |some x=>match zBS (covL c x) q with
   | none=>none
   | some q'=>zCR c f (k+1) q'
def lowS (c:List (List Int)) (w:List Int):Option (List (List Int)):=zCR c 201 0 [w]
def Many (T:List Int→Prop):Prop:=∃l:List (List Int),l.Nodup∧200<l.length∧∀x∈l,T x
theorem zFx {T:List Int→Prop}:∀{l q:List (List Int)},q.Nodup→(∀x∈q,T x)→(∀x∈l,T x)→q.length≤200 →
  match zBS l q with
  | none=>Many T
  | some q'=>q'.Nodup∧(∀x∈q',T x)∧q'.length≤200∧(∀x∈l,x∈q')∧∃r,q'=q++r
 | [],q,h1,h2,_,h4=>⟨h1,h2,h4,fun _ hx=>by simp at hx,[],by simp⟩
 | y::l,q,h1,h2,h3,h4=>by
  unfold zBS;by_cases hy:y∈q
  ·rw [if_pos hy];have ih:=zFx (l:=l) h1 h2 (fun x hx=>h3 x (List.mem_cons_of_mem _ hx)) h4;cases e:zBS l q with
   | none=>rw [e] at ih; exact ih
   | some q' =>
    rw [e] at ih;obtain ⟨a1,a2,a3,a4,r,a5⟩:=ih;refine ⟨a1,a2,a3,fun x hx=>?_,r,a5⟩;rcases List.mem_cons.1 hx with rfl | hx
    ·rw [a5]; exact List.mem_append_left _ hy
    ·exact a4 x hx
  ·rw [if_neg hy];have hn:(q++[y]).Nodup:=List.nodup_append.2 ⟨h1,by simp,fun a ha b hb=>by simp at hb; subst hb; exact fun e=>hy (e ▸ ha)⟩;have hT:∀x∈q++[y],T x:=fun x hx=>by
    rcases List.mem_append.1 hx with hx | hx
    ·exact h2 x hx
    ·simp at hx; subst hx; exact h3 x (by simp)
   by_cases hl:200≤q.length
   ·rw [if_pos hl];exact ⟨q++[y],hn,by simp; omega,hT⟩
   ·rw [if_neg hl];have ih:=zFx (l:=l) hn hT (fun x hx=>h3 x (List.mem_cons_of_mem _ hx)) (by simp; omega);cases e:zBS l (q++[y]) with
    | none=>rw [e] at ih; exact ih
    | some q' =>
     rw [e] at ih;obtain ⟨a1,a2,a3,a4,r,a5⟩:=ih;refine ⟨a1,a2,a3,fun x hx=>?_,y::r,by rw [a5]; simp⟩;rcases List.mem_cons.1 hx with rfl | hx
     ·rw [a5]; simp
     ·exact a4 x hx
theorem zIW {T:List Int→Prop} (hT:∀x,T x→∀y∈covL c x,T y) {s:List Int}:∀(f k:Nat) {q:List (List Int)},201≤f+k→k≤q.length→q.Nodup→(∀x∈q,T x)→q.length≤200→s∈q →
  (∀(j:Nat) (x:List Int),j<k→q[j]? = some x→∀y∈covL c x,y∈q) →
  match zCR c f k q with
  | none=>Many T
  | some q'=>q'.Nodup∧(∀x∈q',T x)∧q'.length≤200∧s∈q'∧∀x∈q',∀y∈covL c x,y∈q'
 | 0,k,q,h1,h2,_,_,h5,_,_=>by omega
 | f+1,k,q,h1,h2,h3,h4,h5,h6,h7=>by
  unfold zCR;cases e:q[k]? with
  | none =>
   have hk:q.length≤k:=List.getElem?_eq_none_iff.1 e;refine ⟨h3,h4,h5,h6,fun x hx y hy=>?_⟩;obtain ⟨j,hj⟩:=List.getElem?_of_mem hx;have:=(zQb hj).1;exact h7 j x (by omega) hj y hy
  | some x =>
   have hk:k<q.length:=(zQb e).1;have hr:=zFx (l:=covL c x) (q:=q) h3 h4 (hT x (h4 x (zQa e))) h5;show match (match zBS (covL c x) q with | none=>none | some q'=>zCR c f (k+1) q') with | none=>Many T | some q'=>_
   cases e2:zBS (covL c x) q with
   | none=>rw [e2] at hr; exact hr
   | some q' =>
    rw [e2] at hr;obtain ⟨a1,a2,a3,a4,r,a5⟩:=hr;refine zIW hT f (k+1) (by omega) (by rw [a5]; simp; omega) a1 a2 a3 (by rw [a5]; exact List.mem_append_left _ h6) (fun j z hj hz y hy=>?_);rcases Nat.lt_or_ge j k with h | h
    ·rw [a5,List.getElem?_append_left (by omega)] at hz;rw [a5];exact List.mem_append_left _ (h7 j z h hz y hy)
    ·have:j=k:=by omega
     subst this;rw [a5,List.getElem?_append_left hk,e,Option.some.injEq] at hz;subst hz;exact a4 y hy
theorem zLY (hc:CartanP c) {q:List (List Int)} (hq:∀x∈q,∀y∈covL c x,y∈q) {u:List Int} (hu:Nf c u):∀(m:Nat) {v:List Int},v.length≤m→Nf c v→v∈q→PtL c (zAC c u) v→u∈q:=by
 intro m
 induction m with
 | zero =>
  intro v hm hv hvq hp;obtain ⟨z,z1,z2⟩:=hp;have hv0:v=[]:=List.eq_nil_of_length_eq_zero (by omega);subst hv0;have hz0:z=[]:=by simpa using z1
  subst hz0;rw [hu.inj hv z2.symm];exact hvq
 | succ m ih =>
  intro v hm hv hvq hp;obtain ⟨z,z1,z2⟩:=hp;have lv:=hv.le;have lz:=z1.length_le;have hzl:=zAv hv.lets z1;obtain ⟨z',s1,s2,s3⟩:=Cox.red_sub hc.car (zBf hzl);obtain ⟨x,x1,rfl⟩:=zFe s1;have lx:=x1.length_le;have hxl:=zAv hzl x1;have ex:zAC c x=zAC c u:=by rw [<-z2]; exact (zEF hc hxl hzl (by omega) (by omega)).1 s3
  by_cases hlt:x.length<v.length
  ·obtain ⟨y,y1,y2,y3,x',t1,t2⟩:=Cox.part_cover hc.car (zBf hv.lets) (hv.red hc) (toN v).length (zKH (x1.trans z1)) s2 (by rw [zDD,zDD]; exact hlt) (by omega);obtain ⟨d,d1,rfl⟩:=zFe y1;rw [zDD,zDD] at y2;obtain ⟨x2,e1,rfl⟩:=zFe t1;have ld:=d1.length_le;have lx2:=e1.length_le;have hdl:=zAv hv.lets d1;have hx2l:=zAv hdl e1;have ex2:zAC c x2=zAC c u:=by rw [<-ex]; exact (zEF hc hx2l hxl (by omega) (by omega)).1 t2
   obtain ⟨k,k1,k2⟩:=zHh d1 y2;have hlen:=zOs hc hdl (by omega) y3;obtain ⟨n1,n2⟩:=zBl hc hdl (by omega);have hcov:zAB c d∈covL c v:=zF1.2 ⟨k,k1,by rw [<-k2]; omega,by rw [k2]⟩;have hp2:=zHb hc hdl (by omega) n1.lets n1.le y3 n2 e1;rw [ex2] at hp2;exact ih (by omega) n1 (hq v hvq _ hcov) hp2
  ·have hxv:x=v:=(x1.trans z1).eq_of_length_le (by omega);subst hxv;rw [hu.inj hv ex.symm];exact hvq
theorem zEI (hc:CartanP c) {w:List Int} (hw:Nf c w) :
  match lowS c w with
  | none=>Many (Blw c w)
  | some q=>q.Nodup∧q.length≤200∧∀x,x∈q↔Blw c w x:=by
 have hself:Blw c w w:=⟨hw,w,List.Sublist.refl _,rfl⟩;have h:=zIW (c:=c) (T:=Blw c w) (fun x hx y hy=>by
  obtain ⟨k,k1,k2,rfl⟩:=zF1.1 hy;exact hx.down hc hw.lets hw.le (List.eraseIdx_sublist x k)) (s:=w) 201 0 (q:=[w]) (by omega) (by simp) (by simp) (fun x hx=>by simp at hx; subst hx; exact hself) (by simp) (by simp) (fun j x hj=>by omega)
 unfold lowS;cases e:zCR c 201 0 [w] with
 | none=>rw [e] at h; exact h
 | some q =>
  rw [e] at h;obtain ⟨a1,a2,a3,a4,a5⟩:=h;exact ⟨a1,a3,fun x=>⟨a2 x,fun hx=>zLY hc a5 hx.nf w.length (zQd _) hw a4 hx.part⟩⟩
def liF (c:List (List Int)) (i:Int) (out:List (List Int)) (x:List Int):List (List Int):=if zAB c (x++[i])∈out then out else out++[zAB c (x++[i])]
def zDw (c:List (List Int)):List Int→List (List Int)→Option (List (List Int))
 | [],out=>some out
 | i::w,out=>if 200<(out.foldl (liF c i) out).length then none else zDw c w (out.foldl (liF c i) out)
def lowI (c:List (List Int)) (w:List Int):Option (List (List Int)):=zDw c w [[]]
theorem zPl {i:Int} {out:List (List Int)} {x:List Int} (h:out.Nodup):(liF c i out x).Nodup:=by
 unfold liF;split
 ·exact h
 ·rename_i hn
  exact List.nodup_append.2 ⟨h,by simp,fun a ha b hb=>by simp at hb; subst hb; exact fun e=>hn (e ▸ ha)⟩
theorem zOS {i:Int} {out:List (List Int)} {x y:List Int}:y∈liF c i out x↔y∈out∨y=zAB c (x++[i]):=by
 unfold liF;split
 ·rename_i h
  exact ⟨.inl,fun h'=>h'.elim id (fun e=>e ▸ h)⟩
 ·simp
theorem zIV {i:Int}:∀{X out:List (List Int)},out.Nodup→(X.foldl (liF c i) out).Nodup∧∀y,y∈X.foldl (liF c i) out↔y∈out∨∃x∈X,y=zAB c (x++[i])
 | [],out,h=>⟨h,fun y=>by simp⟩
 | x::X,out,h=>by
  obtain ⟨h1,h2⟩:=zIV (X:=X) (zPl (c:=c) (i:=i) (x:=x) h);refine ⟨h1,fun y=>?_⟩;rw [List.foldl_cons,h2,zOS];simp only [List.mem_cons,exists_eq_or_imp];exact ⟨fun h=>h.elim (fun h=>h.elim .inl (fun e=>.inr (.inl e))) (fun h=>.inr (.inr h)),fun h=>h.elim (fun h=>.inl (.inl h)) (fun h=>h.elim (fun e=>.inl (.inr e)) .inr)⟩
theorem zMW (hc:CartanP c) {pre:List Int} {i:Int} (hp:Lets c.length pre) (hi:Lets c.length [i]) (lp:pre.length≤23) {y:List Int}:Blw c (pre++[i]) y↔Blw c pre y∨∃x,Blw c pre x∧y=zAB c (x++[i]):=by
 constructor
 ·intro h;obtain ⟨z,z1,z2⟩:=h.part;obtain ⟨a,b,rfl,ha,hb⟩:=List.sublist_append_iff.1 z1;rcases List.sublist_cons_iff.1 hb with hb | ⟨r,rfl,hr⟩
  ·have:b=[]:=by simpa using hb
   subst this;exact .inl ⟨h.nf,a,ha,by simpa using z2⟩
  ·have:r=[]:=by simpa using hr
   subst this;have hal:=zAv hp ha;have la:=ha.length_le;obtain ⟨n1,n2⟩:=zBl hc hal (by omega);refine .inr ⟨zAB c a,⟨n1,a,ha,n2.symm⟩,?_⟩;have ln:=zAj hc hal (by omega);have e:=zHO hc n1.lets hal hi (by simp; omega) (by simp; omega) n2;rw [<-h.nf.nf];unfold zAB;rw [<-z2];exact congrArg (nf c 30) e.symm
 ·rintro (h | ⟨x,hx,rfl⟩)
  ·obtain ⟨z,z1,z2⟩:=h.part;exact ⟨h.nf,z,z1.trans (List.sublist_append_left _ _),z2⟩
  ·obtain ⟨z,z1,z2⟩:=hx.part;have hzl:=zAv hp z1;have lz:=z1.length_le;have lx:=hx.le hc hp (by omega);obtain ⟨n1,n2⟩:=zBl hc (zCo hx.nf.lets hi) (by simp; omega);exact ⟨n1,z++[i],z1.append (List.Sublist.refl _),by rw [n2]; exact zHO hc hzl hx.nf.lets hi (by simp; omega) (by simp; omega) z2⟩
theorem zIU (hc:CartanP c):∀(w:List Int) {pre:List Int} {out:List (List Int)},Lets c.length (pre++w)→(pre++w).length≤24→out.Nodup→out.length≤200→(∀y,y∈out↔Blw c pre y) →
  match zDw c w out with
  | none=>Many (Blw c (pre++w))
  | some o=>o.Nodup∧o.length≤200∧∀y,y∈o↔Blw c (pre++w) y
 | [],pre,out,_,_,h1,h2,h3=>by rw [List.append_nil]; exact ⟨h1,h2,h3⟩
 | i::w,pre,out,hl,hn,h1,h2,h3=>by
  have e:pre++i::w=(pre++[i])++w:=by simp
  have hp:Lets c.length pre:=fun x hx=>hl x (by simp [hx]);have hi:Lets c.length [i]:=fun x hx=>hl x (by simp at hx; simp [hx]);have lp:pre.length≤23:=by simp at hn; omega
  obtain ⟨r1,r2⟩:=zIV (c:=c) (i:=i) (X:=out) h1;have r3:∀y,y∈out.foldl (liF c i) out↔Blw c (pre++[i]) y:=fun y=>by
   rw [r2,zMW hc hp hi lp,h3];exact ⟨fun h=>h.elim .inl (fun ⟨x,hx,e⟩=>.inr ⟨x,(h3 x).1 hx,e⟩),fun h=>h.elim .inl (fun ⟨x,hx,e⟩=>.inr ⟨x,(h3 x).2 hx,e⟩)⟩
  unfold zDw;rw [e] at hl hn ⊢;by_cases hb:200<(out.foldl (liF c i) out).length
  ·rw [if_pos hb];refine ⟨_,r1,hb,fun x hx=>?_⟩;have:=(r3 x).1 hx;obtain ⟨z,z1,z2⟩:=this.part;exact ⟨this.nf,z,z1.trans (List.sublist_append_left _ _),z2⟩
  ·rw [if_neg hb];exact zIU hc w hl hn r1 (by omega) r3
theorem zNn (hc:CartanP c) {y:List Int}:y∈[([]:List Int)]↔Blw c [] y:=by
 constructor
 ·intro h;simp at h;subst h;exact ⟨zLk hc,[],List.Sublist.refl _,rfl⟩
 ·intro h;have:=h.le hc (fun x hx=>by simp at hx) (by simp);simp at this;simp [this]
theorem zJt (hc:CartanP c) {w:List Int} (hw:Nf c w) :
  match lowI c w with
  | none=>Many (Blw c w)
  | some q=>q.Nodup∧q.length≤200∧∀x,x∈q↔Blw c w x:=by
 have:=zIU hc w (pre:=[]) (out:=[[]]) (by simpa using hw.lets) (by simpa using hw.le) (by simp) (by simp) (fun y=>zNn hc);rw [List.nil_append] at this;exact this
theorem zIZ {T:List Int→Prop} (hm:Many T) {q:List (List Int)} (hl:q.length≤200) (hq:∀x,T x→x∈q):False:=by
 obtain ⟨l,h1,h2,h3⟩:=hm;have:=zHw h1 (fun x hx=>hq x (h3 x hx));omega
theorem zMx (hc:CartanP c) {w:List Int} (hw:Nf c w):((lowS c w).isSome=(lowI c w).isSome)∧∀q o,lowS c w=some q→lowI c w=some o→(∀x,x∈q↔x∈o):=by
 have h1:=zEI hc hw;have h2:=zJt hc hw;cases e1:lowS c w with
 | none =>
  rw [e1] at h1;cases e2:lowI c w with
  | none=>exact ⟨rfl,fun q o h=>by cases h⟩
  | some o=>rw [e2] at h2; exact (zIZ h1 h2.2.1 (fun x hx=>(h2.2.2 x).2 hx)).elim
 | some q =>
  rw [e1] at h1;cases e2:lowI c w with
  | none=>rw [e2] at h2; exact (zIZ h2 h1.2.1 (fun x hx=>(h1.2.2 x).2 hx)).elim
  | some o =>
   rw [e2] at h2;refine ⟨rfl,fun q' o' hq ho x=>?_⟩;cases hq; cases ho;rw [h1.2.2,h2.2.2]
end
end Go.Proofs.YtlchafedbnihoaaGreat
namespace Go.Proofs.YtlchafedbnihoaaGreat
open Go.RowKit
set_option maxRecDepth 20000
set_option maxHeartbeats 8000000
def zBJ (l:List Int) (k i:Nat):List Int:=(l.take i).eraseIdx k
theorem zLB (l:List Int) (k i:Nat):(zBJ l k i).length≤l.length:=by
 have:=(List.eraseIdx_sublist (l.take i) k).length_le;unfold zBJ;rw [List.length_take] at this;omega
theorem zJI {l:List Int} {k i:Nat} {x:Int} (h:l[i]? = some x) (hne:i≠k):zBJ l k (i+1)=zBJ l k i++[x]:=by
 have hi:=(zQb h).1;unfold zBJ;rw [zAW h];rcases Nat.lt_or_ge k i with hk | hk
 ·rw [List.eraseIdx_append_of_lt_length (by rw [List.length_take]; omega)]
 ·rw [List.eraseIdx_of_length_le (by simp; omega),List.eraseIdx_of_length_le (by simp; omega)]
theorem zKT {l:List Int} {k i:Nat} {x:Int} (h:l[i]? = some x) (he:i=k):zBJ l k (i+1)=zBJ l k i:=by
 subst he;have hi:=(zQb h).1;unfold zBJ;have hlen:(l.take i).length=i:=by rw [List.length_take]; omega
 rw [zAW h,List.eraseIdx_append_of_length_le (by omega),hlen,Nat.sub_self];show l.take i++[]=_;rw [List.append_nil,List.eraseIdx_of_length_le (by omega)]
theorem zIC {S:Nat→Prop} {w:World} {v:Value} {l:List Int} (h:RI S w v l) (q:Nat) (hl:l.length≤1048576) :
  Calls Tryz.prog 116 #[v,.int .i64 q] w fun e w'=>∃r,e=.returned r∧FI (New w w') w' r (l.eraseIdx q)∧Below w.heap.size w w':=by
 have mixed:Tryz.prog.follows .mixedOrders=true:=by kernel_rfl
 obtain ⟨w1,hw1⟩:∃w1,w1=w.alloc (.cells #[] 3):=⟨_,rfl⟩;have fe:=zAR (Below.refl _ w) hw1;have hs1:HS w w1 [aI (.slice (some ⟨w.heap.size,0,none⟩) 0 0) (zBJ l q 0)]:=by
  have:=HSx.addI (HS.nil (Below.refl _ w)) fe.2 fe.1;have e:zBJ l q 0=[]:=by simp [zBJ]
  rw [e]; exact this
 have HW1:=zQY hw1;have HST:=zQY (fun (i:Nat) (x:Int) (hx:l[i]? = some x)=>zJI (k:=q) hx);have HSS:=zQY (fun (i:Nat) (x:Int) (hx:l[i]? = some x)=>zKT (k:=q) hx);have HLN:=zQY (zLB l q);have HE:Hid (zBJ l q l.length=l.eraseIdx q):=zQY (by unfold zBJ; rw [List.take_of_length_le (zQd _)]);have h0:=h;obtain ⟨a,cap,rfl⟩:=h.form;generalize hn:l.length=n at *;clear hw1 hn fe;go_enter Tryz.func116,Tryz.ntmps116
 go_wp2_with fail
 rw [<-HW1.out];go_loopw [5,6] (fun oo kk wr=>∃(k:Nat) (vo:Value),vo=oo∧k≤n∧kk=.int .i64 k∧HS w wr [aI vo (zBJ l q k)]) (fun _ kk _=>n-(intOf kk).toNat)
 case atStart=>exact ⟨0,_,rfl,Nat.zero_le _,rfl,hs1⟩
 case round =>
  clear hs1;obtain ⟨k,vo,rfl,hk,rfl,hs⟩:=hrel;by_cases hkn:k<n
  ·have i1:(k:Int)<(n:Int):=by omega
   have i2:(0:Int)≤(k:Int):=by omega
   obtain ⟨b4,o4,x,rfl,hcx,hx⟩:=RI.at (h0.below hs.bl) hkn;by_cases hkq:k=q
   ·have HS2:Hid (zBJ l q k=zBJ l q (k+1)):=zQY (HSS.out k x hx.out hkq).symm;have i3:((k:Int) != (q:Int))=false:=by simp [hkq]
    rw [HS2.out] at hs;clear hkq hx;go_wp2_with fail
    go_roundw
    case rel=>exact ⟨k+1,_,rfl,by omega,by go_num,hs⟩
    case measure=>simp [intOf]; omega
   ·have HS2:Hid (zBJ l q (k+1)=zBJ l q k++[x]):=zQY (HST.out k x hx.out hkq);have i3:((k:Int) != (q:Int))=true:=by simp; omega
    obtain ⟨w5,hw5⟩:∃w5,w5=wr.alloc (.cells #[.int .i64 x] 3):=⟨_,rfl⟩;have hs5:HS w w5 [aI vo (zBJ l q k)]:=by rw [hw5]; exact HSx.alloc hs _
    have hc5:w5.cell? ⟨wr.heap.size,0,none⟩=some (.int .i64 x):=by rw [hw5]; go_simp
    have HW5:=zQY hw5;have HL5:Hid ((zBJ l q k).length+1≤67108864):=zQY (by have:=HLN.out k; omega);clear hw5 hs hkq hx;go_wp2_with (at_builtin; go_must (rw [<-HW5.out]; refine zKo rfl _ _ rfl rfl hs5 0 rfl rfl hc5 HL5.out ?_))
    intro v6 w6 hs6;have hs6:HS w w6 [aI v6 (zBJ l q (k+1))]:=by rw [HS2.out]; exact hs6
    clear hs5;go_wp2_with fail
    go_roundw
    case rel=>exact ⟨k+1,_,rfl,by omega,by go_num,hs6⟩
    case measure=>simp [intOf]; omega
  ·have i1:¬(k:Int)<(n:Int):=by omega
   have e:k=n:=by omega
   rw [e,HE.out] at hs;clear e;go_wp2_with fail
   go_ret
   exact ⟨_,rfl,hs.I 0 rfl,hs.bl⟩
def brL (c:List (List Int)) (l:List Int):List (List Int):=if isWd c l then covL c (zAB c l) else []
def zB1 (c:List (List Int)) (x:List Int) (k:Nat):List (List Int):=(List.range k).foldl (covF c x) []
theorem zKR (c:List (List Int)) (x:List Int) (k:Nat):zB1 c x (k+1)=covF c x (zB1 c x k) k:=by unfold zB1; rw [List.range_succ,List.foldl_append]; rfl
theorem zK9 {c:List (List Int)} (hc:CartanP c) {x:List Int} (hx:Lets c.length x) (lx:x.length≤24) {k:Nat} (_hk:k≤x.length):∀y∈zB1 c x k,y.length≤24:=fun y hy=>by
 obtain ⟨m,_,_,rfl⟩:=(zF0 k).1 hy;have hs:=List.eraseIdx_sublist x m;have:=hs.length_le;have:=zAj hc (zAv hx hs) (by omega);omega
theorem zK8 (c:List (List Int)) (x:List Int) (k:Nat):(zB1 c x k).length≤k:=zFq k
theorem zKS {S S':Nat→Prop} {u v:Value} {c:List (List Int)} {l:List Int} {w:World} (h:RII S w u c) (h':RI S' w v l) (hl:total c≤16777216) (hl':l.length≤16777216) :
  Calls Tryz.prog 93 #[u,v] w fun e w'=>∃r,e=.returned r∧FII (New w w') w' r (brL c l)∧Below w.heap.size w w':=by
 have mixed:Tryz.prog.follows .mixedOrders=true:=by kernel_rfl
 obtain ⟨w1,hw1⟩:∃w1,w1=w.alloc (.cells #[] 25):=⟨_,rfl⟩;have hs1:=HSx.addF (HS.nil (Below.refl _ w)) (FII.empty_of (Below.refl _ w) hw1).2 (FII.empty_of (Below.refl _ w) hw1).1;have hs1:HS w w1 [aF (.slice (some ⟨w.heap.size,0,none⟩) 0 0) []]:=hs1;have hnf:=zBZ (h.below hs1.bl) (h'.below hs1.bl) hl hl';have HW1:=zQY hw1;clear hw1;cases hwd:isWd c l with
 | false =>
  have HB:Hid (brL c l=[]):=zQY (by unfold brL; rw [hwd]; rfl);have hn0:zBB c l=[]:=by unfold zBB; rw [hwd]; rfl
  rw [hwd,hn0] at hnf;clear hwd hn0;go_enter Tryz.func93,Tryz.ntmps93
  go_wp2_with fail
  rw [<-HW1.out];refine hnf.mono ?_;rintro e w2 ⟨r2,rfl,f2,b2⟩;have hs2:=HSx.below hs1 b2;obtain ⟨a2,c2,rfl⟩:=f2.form;simp only [List.length_nil];clear hs1 hnf f2 b2;go_wp2_with fail
  go_loopw [5,8] (fun oo kk wr=>oo=.slice (some ⟨w.heap.size,0,none⟩) 0 0∧kk=.int .i64 0∧wr=w2) (fun _ _ _=>0)
  case atStart=>exact ⟨rfl,rfl,rfl⟩
  case round =>
   obtain ⟨rfl,rfl,rfl⟩:=hrel;go_wp2_with fail
   go_ret
   exact ⟨_,rfl,by rw [HB.out]; exact HS.F hs2 0 rfl,hs2.bl⟩
 | true =>
  obtain ⟨hisc,hlen15,hlets⟩:=zAT hwd;have hc:CartanP c:=zAY.1 hisc;have hX:zBB c l=zAB c l:=by unfold zBB; rw [hwd]; rfl
  have HB:Hid (brL c l=zB1 c (zAB c l) (zAB c l).length):=zQY (by unfold brL; rw [hwd]; rfl);have hxl:=zDX hc hlets (by omega);have hxn:=zAj hc hlets (by omega);rw [hwd,hX] at hnf;generalize zAB c l=X at *;have HSTP:=zQY (zKR c X);have HCM:=zQY (fun (k:Nat) (hk:k≤X.length)=>zK9 hc hxl (by omega) hk);have HCL:=zQY (zK8 c X);have HNS:=zQY (fun (wv:World) (S9:Nat→Prop) (vv:Value) (k:Nat) (hb:Below w.heap.size w wv) (hv:RI S9 wv vv (X.eraseIdx k))=>zBK (h.below hb) hv hc (zAv hxl (List.eraseIdx_sublist X k)) hl (by have:=(List.eraseIdx_sublist X k).length_le; omega));have HYL:Hid (∀k,(zAB c (X.eraseIdx k)).length≤30):=zQY (fun k=>by
   have hs:=List.eraseIdx_sublist X k;have:=hs.length_le;have:=zAj hc (zAv hxl hs) (by omega);omega)
  have hX30:X.length≤15:=by omega
  have HC0:Hid (zB1 c X 0=[]):=zQY rfl;clear hwd hX hisc hlets hxl hlen15 hxn hc h h';go_enter Tryz.func93,Tryz.ntmps93
  go_wp2_with fail
  rw [<-HW1.out];refine hnf.mono ?_;rintro e w2 ⟨r2,rfl,f2,b2⟩;have hs2:=HSx.addI hs1 b2 f2;obtain ⟨a2,c2,rfl⟩:=f2.form;generalize hm:X.length=m at *;have HM:=zQY hm;have hs2:HS w w2 [aF (.slice (some ⟨w.heap.size,0,none⟩) 0 0) (zB1 c X 0),aI (.slice a2 m c2) X]:=by rw [HC0.out]; exact hs2
  clear hs1 hnf f2 b2 hm;go_wp2_with fail
  go_loopw [5,8] (fun oo kk wr=>∃(k:Nat) (vo:Value),vo=oo∧k≤m∧kk=.int .i64 k∧HS w wr [aF vo (zB1 c X k),aI (.slice a2 m c2) X]) (fun _ kk _=>m-(intOf kk).toNat)
  case atStart=>exact ⟨0,_,rfl,Nat.zero_le _,rfl,hs2⟩
  case round =>
   clear hs2;obtain ⟨k,vo,rfl,hk,rfl,hs⟩:=hrel;by_cases hkm:k<m
   ·have i1:(k:Int)<(m:Int):=by omega
    have i2:(0:Int)≤(k:Int):=by omega
    have hdel:=zIC (HS.I hs 1 rfl).reads k (by rw [HM.out]; omega);go_wp2_with fail
    refine hdel.mono ?_;rintro e w3 ⟨r3,rfl,f3,b3⟩;have hs3:=HSx.addI hs b3 f3;have hs3:HS w w3 [aF vo (zB1 c X k),aI (.slice a2 m c2) X,aI r3 (X.eraseIdx k)]:=hs3;have hns:=HNS.out w3 _ r3 k hs3.bl f3.reads;clear hdel f3 b3 hs;go_wp2_with fail
    refine hns.mono ?_;rintro e w4 ⟨r4,rfl,f4,b4⟩;have hs4:=HSx.addI hs3 b4 f4;have hs4:HS w w4 [aF vo (zB1 c X k),aI (.slice a2 m c2) X,aI r3 (X.eraseIdx k),aI r4 (zAB c (X.eraseIdx k))]:=hs4;obtain ⟨a4,c4,rfl⟩:=f4.form;have hyl:=HYL.out k;have hst:=HSTP.out k;unfold covF at hst;generalize hy:(zAB c (X.eraseIdx k)).length=ny at *;have HY:=zQY hy;clear hns f4 b4 hs3 hy;rw [HM.out] at hst;by_cases hc:ny+1=m
    ·rw [if_pos hc] at hst;have HST:=zQY hst;have i3:((ny:Int) == (m:Int)-1)=true:=by simp; omega
     have i4:(m:Int)-1=(ny:Int):=by omega
     have hr5:=(HS.I hs4 3 rfl).reads;obtain ⟨F,hF,hFn,HBK⟩:=hs4.lend 0 rfl;have hcall:=zIt hF hFn hr5 (fun z hz=>by have:=HCM.out k (by omega) z hz; omega) (by have:=HCL.out k; omega) (by rw [HY.out]; omega);have HPC:Hid (zHt F (zAB c (X.eraseIdx k)) (zB1 c X k) w4=fun e w'=>∃r,e=.returned r∧HSx F w4 w' [aF r (putE (zAB c (X.eraseIdx k)) (zB1 c X k))]):=zQY rfl;rw [HPC.out] at hcall;clear hst hc hr5 hF;go_wp2_with fail
     refine hcall.mono ?_;rintro e w6 ⟨r6,rfl,h6⟩;rw [<-HST.out] at h6;have hs7:=HSx.pick (HBK.out w6 _ h6) [0,1] (by decide);have hs7:HS w w6 [aF r6 (zB1 c X (k+1)),aI (.slice a2 m c2) X]:=hs7;clear hcall h6 hs4;go_wp2_with fail
     go_roundw
     case rel=>exact ⟨k+1,_,rfl,by omega,by go_num,hs7⟩
     case measure=>simp [intOf]; omega
    ·rw [if_neg hc] at hst;have i3:((ny:Int) == (m:Int)-1)=false:=by simp; omega
     have hs7:=HSx.pick hs4 [0,1] (by decide);have hs7:HS w w4 [aF vo (zB1 c X (k+1)),aI (.slice a2 m c2) X]:=by rw [hst]; exact hs7
     clear hst hc hs4;go_wp2_with fail
     go_roundw
     case rel=>exact ⟨k+1,_,rfl,by omega,by go_num,hs7⟩
     case measure=>simp [intOf]; omega
   ·have i1:¬(k:Int)<(m:Int):=by omega
    have e:k=m:=by omega
    rw [e] at hs;clear e;go_wp2_with fail
    go_ret
    exact ⟨_,rfl,by rw [HB.out]; exact HS.F hs 0 rfl,hs.bl⟩
def lwQ (c:List (List Int)) (l:List Int):Option (List (List Int)):=if isWd c l then lowS c (zAB c l) else none
def lwOk (c:List (List Int)) (l:List Int):Bool:=(lwQ c l).isSome
def lwR (c:List (List Int)) (l:List Int):List (List Int):=zBT ((lwQ c l).getD [])
theorem zMu {c:List (List Int)} {f k:Nat} {q:List (List Int)} {x:List Int} (h:q[k]? = some x):zCR c (f+1) k q=(match zBS (covL c x) q with | none=>none | some q'=>zCR c f (k+1) q'):=by
 show (match q[k]? with | none=>some q | some x=>_)=_;first | (rw [h]; done) | (rw [h]; rfl)
theorem zLX {c:List (List Int)} {f k:Nat} {q:List (List Int)} (h:q.length≤k):zCR c f k q=some q:=by
 cases f with
 | zero=>rfl
 | succ f=>show (match q[k]? with | none=>some q | some x=>_)=_; rw [List.getElem?_eq_none h]
theorem HSx.bothR {A:Nat→Prop} {w0 w:World} {Ps:List zAb} {Z Y:Zl} (h:HSx A w0 w Ps) (i j:Nat) (hij:i≠j) (hi:Ps[i]? = some (aRr Z)) (hj:Ps[j]? = some (aRr Y)):HSx A w0 w ((Ps.set i (aRr (Z++Y))).set j zDn) :=
 h.join i j hij hi hj (zHz _) fun F G hF hG _ x hx=>by
  rcases List.mem_append.1 hx with hx | hx
  ·exact RI.mono (hF x hx) (fun b hb=>.inl hb)
  ·exact RI.mono (hG x hx) (fun b hb=>.inr hb)
theorem HSx.readP {A:Nat→Prop} {w0 w:World} {Ps:List zAb} {v:Value} {Z P:Zl} (h:HSx A w0 w Ps) (i j:Nat) (hij:i≠j) (hi:Ps[i]? = some (aV 25 v (Z.map Prod.fst))) (hj:Ps[j]? = some (aRr P)) (hsub:∀z∈Z,z∈P):RII Any w v (Z.map Prod.snd):=by
 have h1:=h.imp j hj (zHz Z) (fun F hF x hx=>hF x (hsub x hx));exact h1.readRr i j (by rw [List.getElem?_set_ne (Ne.symm hij)]; exact hi) (by rw [List.getElem?_set_self (zQb hj).1])
def Nf15 (c:List (List Int)) (x:List Int):Prop:=Nf c x∧x.length≤15
theorem zQJ {c:List (List Int)} (hc:CartanP c) {x:List Int} (h:Nf15 c x):∀y∈covL c x,Nf15 c y:=fun y hy=>by
 obtain ⟨k,h1,h2,rfl⟩:=zF1.1 hy;have hs:=List.eraseIdx_sublist x k;have:=hs.length_le;have hl:=h.2;exact ⟨(zBl hc (zAv h.1.lets hs) (by omega)).1,by omega⟩
theorem zMZ (c:List (List Int)) (x:List Int):(covL c x).length≤x.length:=zFq x.length
theorem wd15 {c:List (List Int)} (hc:isC c=true) {x:List Int} (h:Nf15 c x):isWd c x=true:=by
 unfold isWd;simp only [Bool.and_eq_true,decide_eq_true_eq];refine ⟨⟨hc,h.2⟩,zDg.2 fun y hy=>?_⟩;have:=h.1.lets y hy;unfold ptB inR;simp;omega
theorem br15 {c:List (List Int)} (hc:isC c=true) {x:List Int} (h:Nf15 c x):brL c x=covL c x:=by
 unfold brL;rw [wd15 hc h,if_pos rfl,h.1.nf]
theorem zHT {S S':Nat→Prop} {u v:Value} {c:List (List Int)} {l:List Int} {w:World} (h:RII S w u c) (h':RI S' w v l) (hl:total c≤16777216) (hl':l.length≤16777216) :
  Calls Tryz.prog 50 #[u,v] w fun e w'=>∃r,e=.returned (.tuple #[r,.bool (lwOk c l)])∧FII (New w w') w' r (lwR c l)∧Below w.heap.size w w':=by
 have mixed:Tryz.prog.follows .mixedOrders=true:=by kernel_rfl
 have hnf:=zBZ h h' hl hl';cases hwd:isWd c l with
 | false =>
  have HO:Hid (lwOk c l=false):=zQY (by unfold lwOk lwQ; rw [hwd]; rfl);have HR:Hid (lwR c l=[]):=zQY (by unfold lwR lwQ; rw [hwd]; rfl);rw [hwd] at hnf;clear hwd;go_enter Tryz.func50,Tryz.ntmps50
  go_wp2_with fail
  refine hnf.mono ?_;rintro e w1 ⟨r1,rfl,_,b1⟩;have hf:=FII.empty_of b1 (w1:=w1.alloc (.cells #[] 25)) rfl;clear hnf;go_wp2_with fail
  go_ret2
  exact ⟨_,by rw [HO.out]; rfl,by rw [HR.out]; exact hf.1,hf.2⟩
 | true =>
  obtain ⟨hisc,hlen15,hlets⟩:=zAT hwd;have hc:CartanP c:=zAY.1 hisc;have hX:zBB c l=zAB c l:=by unfold zBB; rw [hwd]; rfl
  have h15:Nf15 c (zAB c l):=⟨(zBl hc hlets (by omega)).1,by have:=zAj hc hlets (by omega); omega⟩;have HOK:Hid (lwOk c l=(lowS c (zAB c l)).isSome):=zQY (by unfold lwOk lwQ; rw [hwd]; rfl);have HRR:Hid (lwR c l=zBT ((lowS c (zAB c l)).getD [])):=zQY (by unfold lwR lwQ; rw [hwd]; rfl);have HQ0:Hid (∃f,201≤f+0∧zCR c f 0 [zAB c l]=lowS c (zAB c l)):=zQY ⟨201,by omega,rfl⟩;have HCV:=zQY (fun (wv:World) (S9:Nat→Prop) (vv:Value) (x:List Int) (hb:Below w.heap.size w wv) (hx:RI S9 wv vv x) (h5:Nf15 c x)=>(br15 hisc h5 ▸ zKS (h.below hb) hx hl (by have:=h5.2; omega):Calls Tryz.prog 93 #[u,vv] wv fun e w'=>∃r,e=.returned r∧FII (New wv w') w' r (covL c x)∧Below wv.heap.size wv w'));have HC15:=zQY (fun (x:List Int) (hx:Nf15 c x)=>zQJ hc hx);rw [hwd,hX] at hnf;generalize lowS c (zAB c l)=R at *
  generalize zAB c l=X at *;clear hwd hX hisc hc hlets hlen15 h h' hl hl';go_enter Tryz.func50,Tryz.ntmps50
  go_wp2_with fail
  refine hnf.mono ?_;rintro e w1 ⟨r1,rfl,f1,b1⟩;obtain ⟨a1,c1,rfl⟩:=f1.form;have hs1:=HSx.addI (HS.nil (Below.refl _ w)) b1 f1;have hs2:=HSx.newV1 hs1 (.slice a1 X.length c1) rfl;have hs3:=(HSx.add hs2 (Below.refl _ _) (zCf []) (F:=NoB) ⟨fun x hx=>by simp at hx,List.Pairwise.nil⟩ (fun b hb=>hb.elim)).moreS 2 0 (by decide) rfl rfl (Z':=[(.slice a1 X.length c1,X)]) (List.Perm.refl _);have hs4:=(HSx.sToR hs3 2 rfl).pick [1,2] (by decide);have hs4:HS w (w1.alloc (.cells #[.slice a1 X.length c1] 25)) [aV 25 (.slice (some ⟨w1.heap.size,0,none⟩) 1 1) (([(.slice a1 X.length c1,X)]:Zl).map Prod.fst),aRr [(.slice a1 X.length c1,X)]]:=hs4;have HS0:Hid (∀z∈([(.slice a1 X.length c1,X)]:Zl),z∈([(.slice a1 X.length c1,X)]:Zl)):=zQY (fun z hz=>hz)
  have HT0:Hid (∀z∈([(.slice a1 X.length c1,X)]:Zl),Nf15 c z.2):=zQY (fun z hz=>by simp at hz; subst hz; exact h15);clear hnf f1 b1 hs1 hs2 hs3 h15;go_wp2_with fail
  go_loopw [8,9] (fun qq kk wr=>∃(k:Nat) (vq:Value) (Z P:Zl),vq=qq∧k≤Z.length∧kk=.int .i64 k∧HS w wr [aV 25 vq (Z.map Prod.fst),aRr P]∧Hid (∀z∈Z,z∈P)∧Hid (∀z∈Z,Nf15 c z.2)∧Z.length≤200∧Hid (∃f,201≤f+k∧zCR c f k (Z.map Prod.snd)=R)) (fun _ kk _=>201-(intOf kk).toNat)
  case atStart=>exact ⟨0,_,_,_,rfl,by simp,rfl,hs4,HS0,HT0,by simp,HQ0⟩
  case round =>
   clear hs4 HS0 HT0 HQ0;obtain ⟨k,vq,Z,P,rfl,hk,rfl,hs,HSB,HTT,hz200,HQ⟩:=hrel;have hlz:(Z.map Prod.fst).length=Z.length:=by simp
   obtain ⟨⟨aq,cq,rfl⟩,hhq⟩:=hs.formV 0 rfl;rw [hlz] at hs hhq ⊢;generalize hmz:Z.length=mz at *;have HMZ:=zQY hmz;clear hlz;by_cases hkm:k<mz
   ·have i1:(k:Int)<(mz:Int):=by omega
    have i2:(0:Int)≤(k:Int):=by omega
    obtain ⟨z,hz⟩:∃z,Z[k]? = some z:=⟨Z[k]'(by omega),zQZ _⟩;obtain ⟨gq,rfl⟩:∃g,aq=some ⟨g,0,none⟩:=by
     obtain ⟨g,c9,e⟩:=hhq (by omega);simp only [Value.slice.injEq] at e;exact ⟨g,e.1⟩
    have hcz:=(hs.cellV 0 rfl (j:=k) (r:=z.1) (by simp [hz])).1;have hrz:=hs.rowR 1 rfl (HSB.out z (zQa hz));have h5z:=HTT.out z (zQa hz);have hcall:=HCV.out wr _ z.1 z.2 hs.bl hrz h5z;obtain ⟨f0,hf0,hbf⟩:=HQ.out;obtain ⟨f,rfl⟩:∃f,f0=f+1:=⟨f0-1,by omega⟩;have hbf:(match zBS (covL c z.2) (Z.map Prod.snd) with | none=>none | some q'=>zCR c f (k+1) q')=R:=by
     rw [<-zMu (f:=f) (k:=k) (q:=Z.map Prod.snd) (x:=z.2) (by rw [List.getElem?_map,hz]; rfl)]; exact hbf
    have HBF:=zQY hbf;have hcl:=zMZ c z.2;have hcl2:=h5z.2;have HCC:Hid (∀y∈covL c z.2,Nf15 c y):=zQY (HC15.out z.2 h5z);obtain ⟨rz,lz⟩:=z;have hcl:(covL c lz).length≤lz.length:=hcl;have hcl2:lz.length≤15:=hcl2;have hcz:wr.cell? ⟨gq,k,none⟩=some rz:=hcz;obtain ⟨az,cz,rfl⟩:=(show RI _ wr rz lz from hrz).form;clear hz hrz h5z hbf hhq;go_wp2_with fail
    refine hcall.mono ?_;rintro e w5 ⟨r5,rfl,f5,b5⟩;obtain ⟨Y,hY,hs5⟩:=(HSx.addF hs b5 f5).openF 2 rfl;have hs6:=(HSx.bothR (HSx.sToR hs5 3 rfl) 1 3 (by decide) rfl rfl).pick [0,1,2] (by decide);have hs6:HS w w5 [aV 25 (.slice (some ⟨gq,0,none⟩) mz cq) (Z.map Prod.fst),aRr (P++Y),aV 25 r5 (Y.map Prod.fst)]:=hs6;have hly:(Y.map Prod.fst).length=Y.length:=by simp
    obtain ⟨⟨ay,cy,rfl⟩,hhy⟩:=hs6.formV 2 rfl;rw [hly] at hs6 hhy ⊢;have HYC:=zQY hY;have hyl:Y.length=(covL c lz).length:=by rw [<-hY]; simp
    have HSB2:Hid (∀z∈Z,z∈P++Y):=zQY (fun z hz=>List.mem_append_left _ (HSB.out z hz));have HR0:Hid (zBS ((covL c lz).drop 0) (Z.map Prod.snd)=zBS (covL c lz) (Z.map Prod.snd)):=zQY rfl;generalize hrw:zBS (covL c lz) (Z.map Prod.snd)=RW at *;generalize hmy:Y.length=my at *;have HMY:=zQY hmy;have HPY:Hid (∀y∈Y,y∈P++Y):=zQY (fun y hy=>List.mem_append_right _ hy);generalize P++Y=PY at *;have HZL0:Hid (mz≤Z.length):=zQY (by omega);have hmy15:my≤15:=by omega
    clear hcall f5 b5 hs5 hs hrw hmy hly hY hcz HSB hyl hcl hcl2;go_wp2_with fail
    go_loopw [8,11] (fun qq ii wr=>∃(i:Nat) (vq:Value) (Z:Zl),vq=qq∧i≤my∧ii=.int .i64 i∧HS w wr [aV 25 vq (Z.map Prod.fst),aRr PY,aV 25 (.slice ay my cy) (Y.map Prod.fst)]∧Hid (∀z∈Z,z∈PY)∧Hid (∀z∈Z,Nf15 c z.2)∧Z.length≤200∧Hid (mz≤Z.length)∧Hid (zBS ((covL c lz).drop i) (Z.map Prod.snd)=RW)) (fun _ ii _=>my-(intOf ii).toNat)
    case atStart=>exact ⟨0,_,Z,rfl,Nat.zero_le _,rfl,hs6,HSB2,HTT,by rw [HMZ.out]; exact hz200,HZL0,HR0⟩
    case round =>
     clear hs6 HSB2 HR0 HTT HZL0 HMZ HQ;clear hmz;obtain ⟨i,vq,Z,rfl,hi,rfl,hs,HSB,HTT,hz200,HZL,HRW⟩:=hrel;by_cases him:i<my
     ·have i3:(i:Int)<(my:Int):=by omega
      have i4:(0:Int)≤(i:Int):=by omega
      obtain ⟨y,hy⟩:∃y,Y[i]? = some y:=⟨Y[i]'(by rw [HMY.out]; exact him),zQZ _⟩;have hcyi:(covL c lz)[i]? = some y.2:=by rw [<-HYC.out,List.getElem?_map,hy]; rfl
      obtain ⟨gy,rfl⟩:∃g,ay=some ⟨g,0,none⟩:=by
       obtain ⟨g,c9,e⟩:=hhy (by omega);simp only [Value.slice.injEq] at e;exact ⟨g,e.1⟩
      have hcyc:=(hs.cellV 2 rfl (j:=i) (r:=y.1) (by simp [hy])).1;have hry:=hs.rowR 1 rfl (HPY.out y (zQa hy));have h5y:=HCC.out y.2 (zQa hcyi);have HPy:=zQY (HPY.out y (zQa hy));have hread:=hs.readP 0 1 (by decide) rfl rfl HSB.out;have hin:=zPi hread hry (fun x hx=>by obtain ⟨z,hz,rfl⟩:=List.mem_map.1 hx; have:=(HTT.out z hz).2; omega) (by simp; omega) (by have:=h5y.2; omega);have hst:=HRW.out;rw [zAF hcyi] at hst;unfold zBS at hst;have H5Y:=zQY h5y;have HYI:=zQY hy;obtain ⟨ry,ly⟩:=y;have hcyc:wr.cell? ⟨gy,i,none⟩=some ry:=hcyc;have hin:Calls Tryz.prog 94 #[vq,ry] wr fun e w'=>e=.returned (.bool (inV (Z.map Prod.snd) ly))∧∃m,w'=wr.drewN m:=hin
      have hst:(if ly∈Z.map Prod.snd then zBS ((covL c lz).drop (i+1)) (Z.map Prod.snd) else if 200≤(Z.map Prod.snd).length then none else zBS ((covL c lz).drop (i+1)) (Z.map Prod.snd++[ly]))=RW:=hst;obtain ⟨ary,cry,rfl⟩:=(show RI _ wr ry ly from hry).form;have hlz:(Z.map Prod.fst).length=Z.length:=by simp
      obtain ⟨⟨aq2,cq2,rfl⟩,_⟩:=hs.formV 0 rfl;rw [hlz] at hs hin ⊢;clear hy hcyi hry h5y hread hlz;by_cases hmem:ly∈Z.map Prod.snd
      ·rw [if_pos hmem] at hst;have HST:=zQY hst;have e1:inV (Z.map Prod.snd) ly=true:=by unfold inV; exact decide_eq_true hmem
       rw [e1] at hin;clear hmem hst e1;go_wp2_with fail
       refine hin.mono ?_;rintro e w7 ⟨rfl,m7,rfl⟩;have hs7:=HSx.drewN hs m7;clear hs hin;go_wp2_with fail
       go_roundw
       case rel=>exact ⟨i+1,_,Z,rfl,by omega,by go_num,hs7,HSB,HTT,hz200,HZL,HST⟩
       case measure=>simp [intOf]; omega
      ·rw [if_neg hmem] at hst;have e1:inV (Z.map Prod.snd) ly=false:=by unfold inV; exact decide_eq_false hmem
       rw [e1] at hin;clear hmem e1;by_cases hbig:200≤Z.length
       ·rw [if_pos (by simpa using hbig)] at hst;have i5:(200:Int)≤(Z.length:Int):=by omega
        have HRN:Hid (R=none):=zQY (by rw [<-HBF.out,<-hst]);clear hst;go_wp2_with fail
        refine hin.mono ?_;rintro e w7 ⟨rfl,m7,rfl⟩;have hs7:=HSx.drewN hs m7;generalize wr.drewN m7=w7 at *;have hf:=FII.empty_of hs7.bl (w1:=w7.alloc (.cells #[] 25)) rfl;clear hs hin hs7;go_wp2_with fail
        go_ret2
        exact ⟨_,by rw [HOK.out,HRN.out]; rfl,by rw [HRR.out,HRN.out]; exact hf.1,hf.2⟩
       ·rw [if_neg (by simpa using hbig)] at hst;have i5:¬(200:Int)≤(Z.length:Int):=by omega
        have HST:Hid (zBS ((covL c lz).drop (i+1)) ((Z++[(Value.slice ary ly.length cry,ly)]).map Prod.snd)=RW):=zQY (by rw [<-hst,List.map_append]; rfl);clear hst;go_wp2_with fail
        refine hin.mono ?_;rintro e w7 ⟨rfl,m7,rfl⟩;have hs7:=HSx.drewN hs m7;generalize wr.drewN m7=w7 at *;have hs7:HS w w7 [aV 25 (.slice aq2 Z.length cq2) (Z.map Prod.fst),aRr PY,aV 25 (.slice (some ⟨gy,0,none⟩) my cy) (Y.map Prod.fst)]:=hs7;have hc7:=(hs7.cellV 2 rfl (j:=i) (r:=.slice ary ly.length cry) (by simp [HYI.out])).1;obtain ⟨w8,hw8⟩:∃w8,w8=w7.alloc (.cells #[.slice ary ly.length cry] 25):=⟨_,rfl⟩;have hs8:HS w w8 [aV 25 (.slice aq2 Z.length cq2) (Z.map Prod.fst),aRr PY,aV 25 (.slice (some ⟨gy,0,none⟩) my cy) (Y.map Prod.fst)]:=by rw [hw8]; exact HSx.alloc hs7 _
        have hc8:w8.cell? ⟨w7.heap.size,0,none⟩=some (.slice ary ly.length cry):=by rw [hw8]; go_simp
        have HW8:=zQY hw8;have HNV:=zQY (HS.newV hs8 0 rfl);have hone:(Value.slice ary ly.length cry).oneCell'=true:=rfl;have HLN:Hid ((Z.map Prod.fst).length+1≤67108864):=zQY (by simp; omega);have HSB3:Hid (∀z∈Z++[(Value.slice ary ly.length cry,ly)],z∈PY):=zQY (fun z hz=>by
         rcases List.mem_append.1 hz with hz | hz
         ·exact HSB.out z hz
         ·rw [List.mem_singleton] at hz; subst hz; exact HPy.out)
        have HTT3:Hid (∀z∈Z++[(Value.slice ary ly.length cry,ly)],Nf15 c z.2):=zQY (fun z hz=>by
         rcases List.mem_append.1 hz with hz | hz
         ·exact HTT.out z hz
         ·rw [List.mem_singleton] at hz; subst hz; exact H5Y.out)
        have HZL3:Hid (mz≤(Z++[(Value.slice ary ly.length cry,ly)]).length):=zQY (by have:=HZL.out; simp; omega);have hz3:(Z++[(Value.slice ary ly.length cry,ly)]).length≤200:=by simp; omega
        clear hw8 hs hin hs7;go_wp2_with (at_builtin; go_must (rw [<-HW8.out]; refine zAh rfl _ _ rfl rfl hs8 0 rfl HNV.out rfl hc8 hone HLN.out ?_))
        intro v9 w9 hs9 _;have hs9:HS w w9 [aV 25 v9 ((Z++[(Value.slice ary ly.length cry,ly)]).map Prod.fst),aRr PY,aV 25 (.slice (some ⟨gy,0,none⟩) my cy) (Y.map Prod.fst)]:=by
         have e:(Z++[(Value.slice ary ly.length cry,ly)]).map Prod.fst=Z.map Prod.fst++[Value.slice ary ly.length cry]:=by simp
         rw [e]; exact hs9
        clear hs8;generalize Z++[(Value.slice ary ly.length cry,ly)]=Z3 at *;go_wp2_with fail
        go_roundw
        case rel=>exact ⟨i+1,_,Z3,rfl,by omega,by go_num,hs9,HSB3,HTT3,hz3,HZL3,HST⟩
        case measure=>simp [intOf]; omega
     ·have i3:¬(i:Int)<(my:Int):=by omega
      have hst:=HRW.out;rw [List.drop_eq_nil_of_le (by have:=HMY.out; have:=congrArg List.length HYC.out; simp at this; omega)] at hst;have hbf:=HBF.out;rw [<-hst] at hbf;have HQ2:Hid (∃f,201≤f+(k+1)∧zCR c f (k+1) (Z.map Prod.snd)=R):=zQY ⟨f,by omega,hbf⟩;have hs9:HS w wr [aV 25 vq (Z.map Prod.fst),aRr PY]:=HSx.pick hs [0,1] (by decide);have hkz:k+1≤Z.length:=by have:=HZL.out; omega
      clear hs hst hbf;go_wp2_with fail
      go_roundw
      case rel=>exact ⟨k+1,_,Z,PY,rfl,hkz,by go_num,hs9,HSB,HTT,hz200,HQ2⟩
      case measure=>simp [intOf]; omega
   ·have i1:¬(k:Int)<(mz:Int):=by omega
    obtain ⟨f0,_,hbf⟩:=HQ.out;rw [zLX (by simp; omega)] at hbf;have HRS:Hid (R=some (Z.map Prod.snd)):=zQY hbf.symm;obtain ⟨w5,hw5⟩:∃w5,w5=wr.alloc (.cells #[] 25):=⟨_,rfl⟩;have hs5:=HSx.addF hs (FII.empty_of (Below.refl _ wr) hw5).2 (FII.empty_of (Below.refl _ wr) hw5).1;have hs5:HS w w5 [aV 25 (.slice aq mz cq) (Z.map Prod.fst),aRr P,aF (.slice (some ⟨wr.heap.size,0,none⟩) 0 0) (zBT ((Z.map Prod.snd).take 0))]:=hs5;have HW5:=zQY hw5;clear hbf hs hw5 HQ;go_wp2_with fail
    rw [<-HW5.out];go_loopw [12,13] (fun oo jj wr=>∃(j:Nat) (vo:Value),vo=oo∧j≤mz∧jj=.int .i64 j∧HS w wr [aV 25 (.slice aq mz cq) (Z.map Prod.fst),aRr P,aF vo (zBT ((Z.map Prod.snd).take j))]) (fun _ jj _=>mz-(intOf jj).toNat)
    case atStart=>exact ⟨0,_,rfl,Nat.zero_le _,rfl,hs5⟩
    case round =>
     clear hs5;obtain ⟨j,vo,rfl,hj,rfl,hs⟩:=hrel;by_cases hjm:j<mz
     ·have j1:(j:Int)<(mz:Int):=by omega
      have j2:(0:Int)≤(j:Int):=by omega
      obtain ⟨z,hz⟩:∃z,Z[j]? = some z:=⟨Z[j]'(by omega),zQZ _⟩;obtain ⟨gq,rfl⟩:∃g,aq=some ⟨g,0,none⟩:=by
       obtain ⟨g,c9,e⟩:=hhq (by omega);simp only [Value.slice.injEq] at e;exact ⟨g,e.1⟩
      have hcz:=(hs.cellV 0 rfl (j:=j) (r:=z.1) (by simp [hz])).1;have hrz:=hs.rowR 1 rfl (HSB.out z (zQa hz));have h5z:=HTT.out z (zQa hz);have hst:zBT ((Z.map Prod.snd).take (j+1))=putE z.2 (zBT ((Z.map Prod.snd).take j)):=by
       rw [zAW (x:=z.2) (by rw [List.getElem?_map,hz]; rfl)];unfold zBT;rw [List.foldl_append]; rfl
      have HST:=zQY hst;have hmemS:=(zBs ((Z.map Prod.snd).take j)).2;have hlnS:(zBT ((Z.map Prod.snd).take j)).length≤1048576:=by
       have:=zHw (zBs ((Z.map Prod.snd).take j)).1.nodup (m:=(Z.map Prod.snd).take j) (fun x hx=>(hmemS x).1 hx);simp at this; omega
      have hleS:∀x∈zBT ((Z.map Prod.snd).take j),x.length≤16777216:=fun x hx=>by
       have:=List.mem_of_mem_take ((hmemS x).1 hx);obtain ⟨z9,hz9,rfl⟩:=List.mem_map.1 this;have:=(HTT.out z9 hz9).2; omega
      obtain ⟨F,hF,hFn,HBK⟩:=hs.lend 2 rfl;have hcall:=zIt hF hFn hrz hleS hlnS (by have:=h5z.2; omega);have HPC:Hid (zHt F z.2 (zBT ((Z.map Prod.snd).take j)) wr=fun e w'=>∃r,e=.returned r∧HSx F wr w' [aF r (putE z.2 (zBT ((Z.map Prod.snd).take j)))]):=zQY rfl;rw [HPC.out] at hcall;clear hrz h5z hst hmemS hlnS hleS hF hz;go_wp2_with fail
      refine hcall.mono ?_;rintro e w6 ⟨r6,rfl,h6⟩;rw [<-HST.out] at h6;have hs7:=HBK.out w6 _ h6;have hs7:HS w w6 [aV 25 (.slice (some ⟨gq,0,none⟩) mz cq) (Z.map Prod.fst),aRr P,aF r6 (zBT ((Z.map Prod.snd).take (j+1)))]:=hs7;clear hcall h6 hs;go_wp2_with fail
      go_roundw
      case rel=>exact ⟨j+1,_,rfl,by omega,by go_num,hs7⟩
      case measure=>simp [intOf]; omega
     ·have j1:¬(j:Int)<(mz:Int):=by omega
      have e:(Z.map Prod.snd).take j=Z.map Prod.snd:=List.take_of_length_le (by simp; omega);rw [e] at hs;clear e;go_wp2_with fail
      go_ret2
      exact ⟨_,by rw [HOK.out,HRS.out]; rfl,by rw [HRR.out,HRS.out]; exact HS.F hs 2 rfl,hs.bl⟩
end Go.Proofs.YtlchafedbnihoaaGreat
