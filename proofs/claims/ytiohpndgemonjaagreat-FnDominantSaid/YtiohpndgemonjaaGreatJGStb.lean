/- A word that fixes a weight off all walls has even length. Plain: functions of numbers. No condition. -/
import Derived.Test.YtiohpndgemonjaaGreatJGOrb
namespace Go.Proofs.YtiohpndgemonjaaGreat.Cox
section
variable {n:Nat} {c:Nat→Nat→Int}
theorem zGD:∀{n:Nat} {f g:Nat→Int},(∀k,k<n→f k≤0)→(∀k,k<n→0≤g k)→dotN f g n≤0
 | 0,_,_,_,_=>Int.le_refl _
 | n+1,f,g,hf,hg=>by
  have h1:=zGD (n:=n) (f:=f) (g:=g) (fun k hk=>hf k (by omega)) (fun k hk=>hg k (by omega));have h2:=Int.mul_nonneg (show 0≤-(f n) by have:=hf n (by omega); omega) (hg n (by omega));rw [Int.neg_mul] at h2;simp only [dotN];omega
end
end Go.Proofs.YtiohpndgemonjaaGreat.Cox
namespace Go.Proofs.YtiohpndgemonjaaGreat
open Go.RowKit
set_option maxRecDepth 20000
section
variable {c T:List (List Int)}
theorem zBY (hT:Cor c T) (hc:CartanP c) {v:List Int} (h:Wt c T v):∀{w:List Nat},Cox.Lets c.length w→actN c w.reverse (actN c w v)=v
 | [],_=>rfl
 | i::w,hw=>by
  have hi:i<c.length:=hw i (List.mem_cons_self ..);have hw':Cox.Lets c.length w:=fun j hj=>hw j (List.mem_cons_of_mem _ hj);rw [List.reverse_cons,zAr];show actN c w.reverse (refl c i (refl c i (actN c w v)))=v;rw [zGd hT hc (zA5 hT hc h hw').1 hi];exact zBY hT hc h hw'
theorem zLq (hT:Cor c T) (hc:CartanP c) {v:List Int} (h:Wt c T v) {i:Nat} (hi:i<c.length):dmL c (refl c i v)=dmL c v:=zOb hT hc h ((Rch.refl c v).step hi)
end
end Go.Proofs.YtiohpndgemonjaaGreat
namespace Go.Proofs.YtiohpndgemonjaaGreat.Cox
theorem sign_of {n:Nat} {c:Nat→Nat→Int} (h:Car n c) {w:List Nat} (hw:Lets n w) {k:Nat} (hk:k<n) :
  (∀m:Nat→Int,(∀j,j<n→0≤m j)→0≤aW c w m k)∨(∀m:Nat→Int,(∀j,j<n→0≤m j)→aW c w m k≤0):=by
 have hr:=lets_rev hw;rcases coh h hr hk with hp | hn
 ·exact .inl fun m hm=>by rw [zCQ h hw hk]; exact dot_nonneg hp.2 hm
 ·exact .inr fun m hm=>by rw [zCQ h hw hk]; exact zGD hn.2 hm
end Go.Proofs.YtiohpndgemonjaaGreat.Cox
namespace Go.Proofs.YtiohpndgemonjaaGreat
open Go.RowKit
set_option maxRecDepth 20000
section
variable {c T:List (List Int)}
theorem zFt (hT:Cor c T) (hc:CartanP c) {w:List Nat} (hw:Cox.Lets c.length w) {k:Nat} (hk:k<c.length) :
  (∀v,Wt c T v→zAD v=none→0≤num (actN c w v) k)∨(∀v,Wt c T v→zAD v=none→num (actN c w v) k≤0):=by
 rcases Cox.sign_of hc.car hw hk with h | h
 ·exact .inl fun v hv hd=>by rw [(zA5 hT hc hv hw).2 k hk]; exact h _ fun j _=>zDH hd j
 ·exact .inr fun v hv hd=>by rw [(zA5 hT hc hv hw).2 k hk]; exact h _ fun j _=>zDH hd j
def rhoL (n:Nat):List Int:=List.replicate n 1
theorem zEG {n k:Nat} (hk:k<n):num (rhoL n) k=1:=by simp [num,rhoL,hk]
theorem zDR (hT:Cor c T):Wt c T (rhoL c.length):=zEL hT (by simp [rhoL]) fun x hx=>by have:=List.eq_of_mem_replicate hx; omega
theorem zDs (n:Nat):zAD (rhoL n)=none:=zBN.2 fun x hx=>by have:=List.eq_of_mem_replicate hx; omega
theorem zD3 {v:List Int} {n:Nat} (hl:v.length=n) (h:∀k,k<n→0≤num v k):zAD v=none:=zBN.2 fun x hx=>by
 obtain ⟨k,hk⟩:=List.getElem?_of_mem hx;have:=h k (by have:=(zQh hk).1; omega);rwa [zAe hk] at this
theorem zC6 (hT:Cor c T) (hc:CartanP c) {v:List Int} (h:Wt c T v) {w:List Nat} (hw:Cox.Lets c.length w):actN c w (actN c w.reverse v)=v:=by
 have:=zBY hT hc h (Cox.lets_rev hw);rwa [List.reverse_reverse] at this
theorem zOk (hT:Cor c T) (hc:CartanP c) {y:List Int} (hy:Wt c T y) (hd:zAD y=none) {t:List Nat} (ht:Cox.Lets c.length t) (e:actN c t (rhoL c.length)=rhoL c.length):actN c t y=y:=by
 refine zDI hT hc hy ⟨t,ht,rfl⟩ hd (zD3 ((zA5 hT hc hy ht).1.len) fun k hk=>?_);rcases zFt hT hc ht hk with h | h
 ·exact h y hy hd
 ·have:=h _ (zDR hT) (zDs _);rw [e,zEG hk] at this;omega
theorem lets_app {n:Nat} {a b:List Nat} (ha:Cox.Lets n a) (hb:Cox.Lets n b):Cox.Lets n (a++b):=Cox.lets_app ha hb
theorem zNl (hT:Cor c T) (hc:CartanP c) {y:List Int} (hy:Wt c T y) (hd:zAD y=none) {u u':List Nat} (hu:Cox.Lets c.length u) (hu':Cox.Lets c.length u') (e:actN c u (rhoL c.length)=actN c u' (rhoL c.length)):actN c u y=actN c u' y:=by
 have h1:actN c (u.reverse++u') (rhoL c.length)=rhoL c.length:=by
  rw [zAr,<-e];exact zBY hT hc (zDR hT) hu
 have h2:=zOk hT hc hy hd (lets_app (Cox.lets_rev hu) hu') h1;rw [zAr] at h2;have h3:=zC6 hT hc ((zA5 hT hc hy hu').1) hu;rw [h2] at h3;exact h3
theorem zHh (hT:Cor c T) (hc:CartanP c) {y:List Int} (hy:Wt c T y) {i:Nat} (hi:i<c.length) (h0:num y i=0):refl c i y=y:=by
 refine zBJ (n:=c.length) (by rw [zAU,hy.len]) hy.len fun k hk=>?_;rw [hy.exact hT hc hi hk];simp only [Cox.sW,h0];omega
theorem zHq (hT:Cor c T) (hc:CartanP c) {y:List Int} (hy:Wt c T y):∀{u:List Nat},(∀i∈u,i<c.length∧num y i=0)→actN c u y=y
 | [],_=>rfl
 | i::u,hu=>by
  show refl c i (actN c u y)=y;rw [zHq hT hc hy fun j hj=>hu j (List.mem_cons_of_mem _ hj)];exact zHh hT hc hy (hu i (List.mem_cons_self ..)).1 (hu i (List.mem_cons_self ..)).2
theorem zIO (hT:Cor c T) (hc:CartanP c) {y:List Int} (hy:Wt c T y) (hd:zAD y=none):∀(m:Nat) {u:List Nat},Cox.Lets c.length u→DomS c T (actN c u (rhoL c.length)) m→actN c u y=y →
  ∃u':List Nat,(∀i∈u',i<c.length∧num y i=0)∧actN c u (rhoL c.length)=actN c u' (rhoL c.length)
 | m,u,hu,h,e=>by
  cases e1:zAD (actN c u (rhoL c.length)) with
  | none=>exact ⟨[],fun i hi=>by simp at hi,zDI hT hc (zDR hT) ⟨u,hu,rfl⟩ (zDs _) e1⟩
  | some i =>
   obtain ⟨m',rfl,h3⟩:=h.back hT hc e1;have hi:i<c.length:=by have:=zBp e1; rw [h.1.len] at this; exact this
   have hn:=zEm e1;have h0:num y i=0:=by
    have hp:=zDH hd i;rcases zFt hT hc hu hi with k | k
    ·have:=k _ (zDR hT) (zDs _);omega
    ·have:=k y hy hd;rw [e] at this;omega
   have hu2:Cox.Lets c.length (i::u):=fun j hj=>by
    rcases List.mem_cons.1 hj with rfl | hj
    ·exact hi
    ·exact hu j hj
   have e2:actN c (i::u) y=y:=by
    show refl c i (actN c u y)=y;rw [e]; exact zHh hT hc hy hi h0
   obtain ⟨u',a1,a2⟩:=zIO hT hc hy hd m' hu2 h3 e2;refine ⟨i::u',fun j hj=>?_,?_⟩
   ·rcases List.mem_cons.1 hj with rfl | hj
    ·exact ⟨hi,h0⟩
    ·exact a1 j hj
   ·show _=refl c i (actN c u' (rhoL c.length));rw [<-a2];exact (zGd hT hc h.1 hi).symm
end
theorem zHg (c:List (List Int)) (i:Nat) (x:Int):∀(l:List Int) (k j:Nat),j<l.length→num (zAX c i x l k) j=wrap64 (num l j-wrap64 (x*ent c (k+j) i))
 | [],_,_,h=>by simp at h
 | y::ys,k,0,_=>by simp [zAX,num]
 | y::ys,k,j+1,h=>by
  have:=zHg c i x ys (k+1) j (by simpa using h);rw [show k+(j+1)=k+1+j by omega,<-(show num ys j=num (y::ys) (j+1) by simp [num]),<-this];simp [zAX,num]
theorem refl_num {c:List (List Int)} {i k:Nat} {v:List Int} (hk:k<v.length):num (refl c i v) k=wrap64 (num v k-wrap64 (num v i*ent c k i)):=by
 have:=zHg c i (num v i) v 0 k hk;rwa [Nat.zero_add] at this
def rsL (S:List Nat) (v:List Int):List Int:=S.map (num v)
def ltL (S:List Nat) (u:List Nat):List Nat:=u.map fun a=>(S[a]?).getD 0
theorem zOt (S u:List Nat):ltL S u.reverse=(ltL S u).reverse:=by simp [ltL]
theorem zOs (S a b:List Nat):ltL S (a++b)=ltL S a++ltL S b:=by simp [ltL]
theorem zEn {S:List Nat} {v:List Int} {a:Nat} (ha:a<S.length):num (rsL S v) a=num v ((S[a]?).getD 0):=by simp [num,rsL,ha]
theorem zE7 {c:List (List Int)} {S:List Nat} {a b:Nat} (ha:a<S.length) (hb:b<S.length):ent (Fin.sub c S) a b=ent c ((S[a]?).getD 0) ((S[b]?).getD 0):=by
 simp [ent,Fin.sub,ha,hb,Fin.en]
theorem zB5 (c:List (List Int)) (S:List Nat):(Fin.sub c S).length=S.length:=by simp [Fin.sub]
theorem zPG {c:List (List Int)} {S:List Nat} {n:Nat} (hS:∀i∈S,i<n) {v:List Int} (hv:v.length=n) {a:Nat} (ha:a<S.length):rsL S (refl c ((S[a]?).getD 0) v)=refl (Fin.sub c S) a (rsL S v):=by
 refine zBJ (n:=S.length) (by simp [rsL]) (by rw [zAU]; simp [rsL]) fun k hk=>?_;have hg:(S[k]?).getD 0<n:=by simp [hk]; exact hS _ (List.getElem_mem hk)
 rw [zEn hk,refl_num (by omega),refl_num (by simp [rsL]; exact hk),zEn hk,zEn ha,zE7 hk ha]
theorem zMR {c:List (List Int)} {S:List Nat} (hS:∀i∈S,i<c.length) {v:List Int} (hv:v.length=c.length):∀{u:List Nat},Cox.Lets S.length u→rsL S (actN c (ltL S u) v)=actN (Fin.sub c S) u (rsL S v)∧(actN c (ltL S u) v).length=c.length
 | [],_=>⟨rfl,hv⟩
 | a::u,hu=>by
  obtain ⟨h1,h2⟩:=zMR hS hv (u:=u) (fun j hj=>hu j (List.mem_cons_of_mem _ hj));have ha:=hu a (List.mem_cons_self ..);refine ⟨?_,?_⟩
  ·show rsL S (refl c ((S[a]?).getD 0) (actN c (ltL S u) v))=refl (Fin.sub c S) a (actN (Fin.sub c S) u (rsL S v));rw [zPG hS h2 ha,h1]
  ·show (refl c ((S[a]?).getD 0) (actN c (ltL S u) v)).length=c.length;rw [zAU,h2]
theorem zQI {S:List Nat} {n:Nat} (hS:∀i∈S,i<n):rsL S (rhoL n)=rhoL S.length:=by
 refine zBJ (n:=S.length) (by simp [rsL]) (by simp [rhoL]) fun k hk=>?_;rw [zEn hk,zEG hk,zEG];simp [hk]; exact hS _ (List.getElem_mem hk)
theorem zJ6 {S:List Nat} {n:Nat} (hS:∀i∈S,i<n) {u:List Nat} (hu:Cox.Lets S.length u):∀i∈ltL S u,i∈S:=fun i hi=>by
 obtain ⟨a,ha,rfl⟩:=List.mem_map.1 hi;have:=hu a ha;simp [this]
theorem unlt {S:List Nat}:∀{u:List Nat},(∀i∈u,i∈S)→∃v,Cox.Lets S.length v∧ltL S v=u
 | [],_=>⟨[],fun _ h=>by simp at h,rfl⟩
 | i::u,h=>by
  obtain ⟨v,h1,h2⟩:=unlt (u:=u) fun j hj=>h j (List.mem_cons_of_mem _ hj);obtain ⟨a,ha⟩:=List.getElem?_of_mem (h i (List.mem_cons_self ..));refine ⟨a::v,fun j hj=>?_,?_⟩
  ·rcases List.mem_cons.1 hj with rfl | hj
   ·exact (zQh ha).1
   ·exact h1 j hj
  ·show (S[a]?).getD 0::ltL S v=i::u;rw [ha,h2]; rfl
def Crd (c:List (List Int)) (v:List Int) (N:Nat):Prop:=∃L:List (List Int),L.Nodup∧L.length=N∧∀x,x∈L↔Rch c v x
theorem Crd.one {c:List (List Int)} {v:List Int} {N M:Nat} (h:Crd c v N) (k:Crd c v M):N=M:=by
 obtain ⟨L,a1,a2,a3⟩:=h;obtain ⟨L',b1,b2,b3⟩:=k;have h1:=zBk a1 (m:=L') fun x hx=>(b3 x).2 ((a3 x).1 hx);have h2:=zBk b1 (m:=L) fun x hx=>(a3 x).2 ((b3 x).1 hx);omega
theorem zJ9 {α β:Type} {f:α→List β} {n:Nat}:∀{l:List α},l.Nodup→(∀a∈l,(f a).Nodup)→(∀a∈l,(f a).length=n)→(∀a∈l,∀b∈l,∀x,x∈f a→x∈f b→a=b)→(l.flatMap f).Nodup∧(l.flatMap f).length=l.length*n
 | [],_,_,_,_=>by simp
 | a::l,h,h1,h2,h3=>by
  obtain ⟨hn,h⟩:=List.nodup_cons.1 h;obtain ⟨k1,k2⟩:=zJ9 h (fun b hb=>h1 b (List.mem_cons_of_mem _ hb)) (fun b hb=>h2 b (List.mem_cons_of_mem _ hb)) (fun b hb d hd=>h3 b (List.mem_cons_of_mem _ hb) d (List.mem_cons_of_mem _ hd));rw [List.flatMap_cons];refine ⟨List.nodup_append.2 ⟨h1 a (List.mem_cons_self ..),k1,fun x hx y hy e=>?_⟩,?_⟩
  ·subst e;obtain ⟨b,hb,hxb⟩:=List.mem_flatMap.1 hy;exact hn (h3 a (List.mem_cons_self ..) b (List.mem_cons_of_mem _ hb) x hx hxb ▸ hb)
  ·rw [List.length_append,k2,h2 a (List.mem_cons_self ..),List.length_cons,Nat.add_mul,Nat.one_mul,Nat.add_comm]
theorem zHF {α β:Type} [Inhabited β] {p:α→β→Prop} {L:List α} (h:∀x∈L,∃y,p x y):∃f:α→β,∀x∈L,p x (f x):=by
 classical
 refine ⟨fun x=>if hx:x∈L then (h x hx).choose else default,fun x hx=>?_⟩;show p x (if hx:x∈L then (h x hx).choose else default);rw [dif_pos hx];exact (h x hx).choose_spec
theorem zNR {α β:Type} {f:α→β}:∀{l:List α},(∀x∈l,∀y∈l,f x=f y→x=y)→l.Nodup→(l.map f).Nodup:=fun h1 h2=>zCx h1 h2
section
variable {c T:List (List Int)}
theorem zH2 (hT:Cor c T) (hc:CartanP c) {y:List Int} (hy:Wt c T y) (hd:zAD y=none) {S:List Nat} (hS:∀i,i∈S↔i<c.length∧num y i=0)
  (hb:∀u,Cox.Lets S.length u→actN (Fin.sub c S) u.reverse (actN (Fin.sub c S) u (rhoL S.length))=rhoL S.length) {N M:Nat} (h1:Crd c y N) (h2:Crd (Fin.sub c S) (rhoL S.length) M):Crd c (rhoL c.length) (N*M):=by
 obtain ⟨Y,y1,rfl,y3⟩:=h1;obtain ⟨Z,z1,rfl,z3⟩:=h2;have hSn:∀i∈S,i<c.length:=fun i hi=>((hS i).1 hi).1;have hsl:=zB5 c S;have hR:=zDR hT;have cY:∃f:List Int→List Nat,∀x∈Y,Cox.Lets c.length (f x)∧x=actN c (f x) y:=zHF (p:=fun x w=>Cox.Lets c.length w∧x=actN c w y) fun x hx=>(y3 x).1 hx;have cZ:∃g:List Int→List Nat,∀x∈Z,Cox.Lets S.length (g x)∧x=actN (Fin.sub c S) (g x) (rhoL S.length):=zHF (p:=fun x w=>Cox.Lets S.length w∧x=actN (Fin.sub c S) w (rhoL S.length)) fun x hx=>by
  obtain ⟨w,k1,k2⟩:=(z3 x).1 hx;exact ⟨w,by rwa [hsl] at k1,k2⟩
 obtain ⟨f,hf⟩:=cY;obtain ⟨g,hg⟩:=cZ;have hgl:∀{u:List Nat},Cox.Lets S.length u→Cox.Lets c.length (ltL S u):=fun hu i hi=>hSn i (zJ6 hSn hu i hi);have hgf:∀{u:List Nat},Cox.Lets S.length u→actN c (ltL S u) y=y:=fun hu=>zHq hT hc hy fun i hi=>(hS i).1 (zJ6 hSn hu i hi);have hrs:∀{u:List Nat},Cox.Lets S.length u→rsL S (actN c (ltL S u) (rhoL c.length))=actN (Fin.sub c S) u (rhoL S.length):=fun hu=>by
  rw [(zMR hSn (by simp [rhoL]) hu).1,zQI hSn]
 -- words over the zeros act on rho as they act on its part
 have hD:∀{a b:List Nat},Cox.Lets S.length a→Cox.Lets S.length b→actN (Fin.sub c S) a (rhoL S.length)=actN (Fin.sub c S) b (rhoL S.length)→actN c (ltL S a) (rhoL c.length)=actN c (ltL S b) (rhoL c.length):=fun {a b} ha hb' e=>by
  have ht:Cox.Lets S.length (a.reverse++b):=lets_app (Cox.lets_rev ha) hb';have e1:actN (Fin.sub c S) (a.reverse++b) (rhoL S.length)=rhoL S.length:=by rw [zAr,<-e]; exact hb a ha
  have htc:=hgl ht;have e2:actN c (ltL S (a.reverse++b)) (rhoL c.length)=rhoL c.length:=by
   refine zDI hT hc hR ⟨_,htc,rfl⟩ (zDs _) (zD3 ((zA5 hT hc hR htc).1.len) fun k hk=>?_);by_cases h0:num y k=0
   ·obtain ⟨j,hj⟩:=List.getElem?_of_mem ((hS k).2 ⟨hk,h0⟩);have hjl:=(zQh hj).1;have h3:=zEn (v:=actN c (ltL S (a.reverse++b)) (rhoL c.length)) hjl;rw [hj,hrs ht,e1,zEG hjl] at h3;simp only [Option.getD_some] at h3;omega
   ·rcases zFt hT hc htc hk with k1 | k1
    ·exact k1 _ hR (zDs _)
    ·have:=k1 y hy hd;rw [hgf ht] at this;have:=zDH hd k;omega
  rw [zOs,zOt,zAr] at e2;have h3:=zC6 hT hc ((zA5 hT hc hR (hgl hb')).1) (hgl ha);rw [e2] at h3;exact h3
 have hL:=zJ9 (f:=fun x=>Z.map fun z=>actN c (f x++ltL S (g z)) (rhoL c.length)) (n:=Z.length) y1 (fun x hx=>zNR (fun z hz z' hz' e=>?_) z1) (fun x hx=>by simp) (fun x hx x' hx' v hv hv'=>?_)
 ·refine ⟨_,hL.1,hL.2,fun x0=>⟨fun hx=>?_,fun hx=>?_⟩⟩
  ·obtain ⟨x,hxY,hv⟩:=List.mem_flatMap.1 hx;obtain ⟨z,hz,rfl⟩:=List.mem_map.1 hv;exact ⟨_,lets_app (hf x hxY).1 (hgl (hg z hz).1),rfl⟩
  ·obtain ⟨w,hw,rfl⟩:=hx;have hxY:actN c w y∈Y:=(y3 _).2 ⟨w,hw,rfl⟩;obtain ⟨f1,f2⟩:=hf _ hxY;have hu:Cox.Lets c.length ((f (actN c w y)).reverse++w):=lets_app (Cox.lets_rev f1) hw;have e1:actN c ((f (actN c w y)).reverse++w) y=y:=by
    rw [zAr];have h3:=zBY hT hc hy f1;rw [<-f2] at h3;exact h3
   obtain ⟨u',a1,a2⟩:=zIO hT hc hy hd _ hu ⟨(zA5 hT hc hR hu).1,rfl⟩ e1;obtain ⟨u2,b1,rfl⟩:=unlt (S:=S) (u:=u') fun i hi=>(hS i).2 (a1 i hi);have hz:actN (Fin.sub c S) u2 (rhoL S.length)∈Z:=(z3 _).2 ⟨u2,by rwa [hsl],rfl⟩;obtain ⟨g1,g2⟩:=hg _ hz;refine List.mem_flatMap.2 ⟨_,hxY,List.mem_map.2 ⟨_,hz,?_⟩⟩;rw [zAr,<-hD b1 g1 g2,<-a2,zAr];exact zC6 hT hc ((zA5 hT hc hR hw).1) f1
 ·have hf1:=(hf x hx).1;rw [zAr,zAr] at e;have h3:=zBY hT hc ((zA5 hT hc hR (hgl (hg z hz).1)).1) hf1;have h4:=zBY hT hc ((zA5 hT hc hR (hgl (hg z' hz').1)).1) hf1;rw [e,h4] at h3;have h5:=congrArg (rsL S) h3;rw [hrs (hg z hz).1,hrs (hg z' hz').1,<-(hg z hz).2,<-(hg z' hz').2] at h5;exact h5.symm
 ·obtain ⟨z,hz,rfl⟩:=List.mem_map.1 hv;obtain ⟨z',hz',e⟩:=List.mem_map.1 hv';have h3:=zNl hT hc hy hd (lets_app (hf x' hx').1 (hgl (hg z' hz').1)) (lets_app (hf x hx).1 (hgl (hg z hz).1)) e;rw [zAr,zAr,hgf (hg z hz).1,hgf (hg z' hz').1,<-(hf x hx).2,<-(hf x' hx').2] at h3;exact h3.symm
end
end Go.Proofs.YtiohpndgemonjaaGreat
namespace Go.Proofs.YtiohpndgemonjaaGreat
open Go.RowKit
set_option maxRecDepth 20000
def nbrs (c:List (List Int)) (i:Nat):Nat:=((List.range c.length).filter fun k=>decide (ent c k i≠0)).length
def zE9 (c:List (List Int)):Nat:=(List.range c.length).foldl (fun b i=>if nbrs c i<nbrs c b then i else b) 0
def omgL (n i:Nat):List Int:=(List.range n).map fun k=>if k=i then 1 else 0
def zA6 (v:List Int) (n:Nat):List Nat:=(List.range n).filter fun k=>decide (num v k=0)
def szQ (c:List (List Int)):Nat:=if c.length=0 then 1 else szP c
def chkZ (c:List (List Int)):Bool:=decide (zE9 c<c.length) && match qBfs c 201 0 [omgL c.length (zE9 c)] with
 | some s=>s.length*szQ (Fin.sub c (zA6 (omgL c.length (zE9 c)) c.length)) == szP c
 | none=>false
theorem zP6:(Fin.L1++Fin.L2++Fin.L3).all chkZ=true:=by decide +kernel
theorem zPz:((Fin.L4.drop 0).take 37).all chkZ=true:=by decide +kernel
theorem zP0:((Fin.L4.drop 37).take 37).all chkZ=true:=by decide +kernel
theorem zP1:((Fin.L4.drop 74).take 37).all chkZ=true:=by decide +kernel
theorem zP2:((Fin.L4.drop 111).take 37).all chkZ=true:=by decide +kernel
theorem zP3:((Fin.L4.drop 148).take 37).all chkZ=true:=by decide +kernel
theorem zP4:((Fin.L4.drop 185).take 37).all chkZ=true:=by decide +kernel
theorem zP5:(Fin.L4.drop 222).all chkZ=true:=by decide +kernel
theorem zMy:(Fin.L1++Fin.L2++Fin.L3++Fin.L4).all chkZ=true:=by
 have h0:=zAh zPz (zAh zP0 (zAh zP1 (zAh zP2 (zAh zP3 (zAh zP4 zP5 rfl) rfl) rfl) rfl) rfl) rfl;rw [List.drop_zero] at h0;rw [List.all_append,zP6,h0];rfl
theorem zJQ {n:Nat} (hn:n≤4) (p:Nat→Bool):∃q,q<2 ^ n∧Fin.bits n q=(List.range n).filter p:=by
 match n,hn with
 | 0,_=>exact ⟨0,by decide,rfl⟩
 | 1,_ =>
  refine ⟨(p 0).toNat,?_,?_⟩
  ·cases h0:p 0 <;> simp
  ·rw [show List.range 1=[0] from rfl];cases h0:p 0 <;> simp [Fin.bits,h0]
 | 2,_ =>
  refine ⟨(p 0).toNat+2*(p 1).toNat,?_,?_⟩
  ·cases h0:p 0 <;> cases h1:p 1 <;> simp
  ·rw [show List.range 2=[0,1] from rfl];cases h0:p 0 <;> cases h1:p 1 <;> simp [Fin.bits,h0,h1]
 | 3,_ =>
  refine ⟨(p 0).toNat+2*(p 1).toNat+4*(p 2).toNat,?_,?_⟩
  ·cases h0:p 0 <;> cases h1:p 1 <;> cases h2:p 2 <;> simp
  ·rw [show List.range 3=[0,1,2] from rfl];cases h0:p 0 <;> cases h1:p 1 <;> cases h2:p 2 <;> simp [Fin.bits,h0,h1,h2]
 | 4,_ =>
  refine ⟨(p 0).toNat+2*(p 1).toNat+4*(p 2).toNat+8*(p 3).toNat,?_,?_⟩
  ·cases h0:p 0 <;> cases h1:p 1 <;> cases h2:p 2 <;> cases h3:p 3 <;> simp
  ·rw [show List.range 4=[0,1,2,3] from rfl];cases h0:p 0 <;> cases h1:p 1 <;> cases h2:p 2 <;> cases h3:p 3 <;> simp [Fin.bits,h0,h1,h2,h3]
def zJp:Bool:=(List.range 5).all fun n=>(List.range (2 ^ n)).all fun q=>(List.range (2 ^ (Fin.bits n q).length)).all fun k=>decide (k=0) || (List.range (2 ^ n)).any fun k'=>decide (1≤k') && decide ((Fin.bits (Fin.bits n q).length k).map (fun a=>((Fin.bits n q)[a]?).getD 0)=Fin.bits n k')
theorem zKm:zJp=true:=by decide +kernel
theorem zLY {n q k:Nat} (hn:n≤4) (hq:q<2 ^ n) (hk:k<2 ^ (Fin.bits n q).length) (h1:1≤k):∃k',1≤k'∧k'<2 ^ n∧(Fin.bits (Fin.bits n q).length k).map (fun a=>((Fin.bits n q)[a]?).getD 0)=Fin.bits n k':=by
 have h:=zKm;unfold zJp at h;have h2:=List.all_eq_true.1 (List.all_eq_true.1 (List.all_eq_true.1 h n (List.mem_range.2 (by omega))) q (List.mem_range.2 hq)) k (List.mem_range.2 hk);rw [Bool.or_eq_true] at h2;rcases h2 with h2 | h2
 ·exact absurd (of_decide_eq_true h2) (by omega)
 ·obtain ⟨k',hk',h3⟩:=List.any_eq_true.1 h2;rw [Bool.and_eq_true] at h3;exact ⟨k',of_decide_eq_true h3.1,List.mem_range.1 hk',of_decide_eq_true h3.2⟩
def zHC:Bool:=(List.range 5).all fun n=>(List.range (2 ^ n)).all fun q=>(Fin.bits n q).all (fun i=>decide (i<n)) && decide ((Fin.bits n q).length≤n) && decide ((Fin.bits n q).Nodup)
theorem zH9:zHC=true:=by decide +kernel
theorem zDz {n q:Nat} (hn:n≤4) (hq:q<2 ^ n):(∀i∈Fin.bits n q,i<n)∧(Fin.bits n q).length≤n∧(Fin.bits n q).Nodup:=by
 have h:=zH9;unfold zHC at h;have h2:=List.all_eq_true.1 (List.all_eq_true.1 h n (List.mem_range.2 (by omega))) q (List.mem_range.2 hq);rw [Bool.and_eq_true,Bool.and_eq_true] at h2;exact ⟨fun i hi=>of_decide_eq_true (List.all_eq_true.1 h2.1.1 i hi),of_decide_eq_true h2.1.2,of_decide_eq_true h2.2⟩
theorem zPT {c:List (List Int)} {S B:List Nat} (hB:∀a∈B,a<S.length):Fin.sub (Fin.sub c S) B=Fin.sub c (B.map fun a=>(S[a]?).getD 0):=by
 show B.map (fun i=>B.map fun j=>Fin.en (Fin.sub c S) i j)=(B.map fun a=>(S[a]?).getD 0).map fun i=>(B.map fun a=>(S[a]?).getD 0).map fun j=>Fin.en c i j;rw [List.map_map];refine List.map_congr_left fun a ha=>?_;simp only [Function.comp];rw [List.map_map];refine List.map_congr_left fun b hb=>?_;have:=zE7 (c:=c) (hB a ha) (hB b hb);exact this
theorem zGy {c:List (List Int)} (h:FinP c) {S:List Nat} {q:Nat} (hq:q<2 ^ c.length) (hS:Fin.bits c.length q=S) (h1:1≤S.length):FinP (Fin.sub c S):=by
 obtain ⟨a1,a2,a3⟩:=zDz h.cart.le hq;have h4:=h.cart.le;rw [hS] at a1 a2 a3;refine ⟨⟨by rw [zB5]; exact h1,by rw [zB5]; omega,fun r hr=>?_,fun i j hi hj=>?_⟩,?_⟩
 ·rw [zB5];obtain ⟨i,_,rfl⟩:=List.mem_map.1 hr;simp
 ·rw [zB5] at hi hj;rw [zE7 hi hj,zE7 hj hi];have gi:(S[i]?).getD 0=S[i]:=by simp [hi]
  have gj:(S[j]?).getD 0=S[j]:=by simp [hj]
  rw [gi,gj];have h5:=h.cart.ok S[i] S[j] (a1 _ (List.getElem_mem hi)) (a1 _ (List.getElem_mem hj));by_cases e:i=j
  ·subst e;unfold okE at h5 ⊢;rw [if_pos rfl] at h5 ⊢;exact h5
  ·have e2:¬S[i]=S[j]:=fun k=>by
    rcases Nat.lt_or_gt_of_ne e with h6 | h6
    ·exact List.pairwise_iff_getElem.1 a3 i j hi hj h6 k
    ·exact List.pairwise_iff_getElem.1 a3 j i hj hi h6 k.symm
   unfold okE at h5 ⊢;rw [if_neg e2] at h5;rw [if_neg e];exact h5
 ·unfold Fin.isFin;rw [Fin.posUp_iff,zB5];intro m hm1 hm2;have hlt:m<2 ^ S.length:=by have:=Nat.two_pow_pos S.length; omega
  obtain ⟨k',b1,b2,b3⟩:=zLY h.cart.le hq (k:=m) (by rw [hS]; exact hlt) hm1;rw [hS] at b3;have hb:∀a∈Fin.bits S.length m,a<S.length:=(zDz (by omega) hlt).1;have e1:Fin.minor (Fin.sub c S) S.length m=Fin.minor c c.length k':=by
   unfold Fin.minor;rw [zPT hb,b3,<-b3,List.length_map]
  rw [e1];exact (Fin.posUp_iff.1 h.pos) k' b1 (by omega)
theorem zEM {c:List (List Int)} (h:FinP c) (y:List Int):∃q,q<2 ^ c.length∧Fin.bits c.length q=zA6 y c.length:=zJQ h.cart.le _
theorem zD9 {y:List Int} {n i:Nat}:i∈zA6 y n↔i<n∧num y i=0:=by
 unfold zA6;rw [List.mem_filter,List.mem_range,decide_eq_true_eq]
theorem zN8 {c T:List (List Int)} (hT:Cor c T) (hc:CartanP c) {d:List Int} (hd:Wt c T d) (h0:zAD d=none) {s:List (List Int)} (hs:qBfs c 201 0 [d]=some s):Crd c d s.length:=by
 have q1:QOk c d 0 [d]:=⟨zBs _,by simp,Nat.zero_le _,fun x hx=>by rw [List.mem_singleton] at hx; subst hx; exact Rch.refl c _,List.mem_singleton.2 rfl,fun j u hj=>by omega⟩;rcases zCh 201 0 _ q1 (by omega) with ⟨s',e',b1,b2,b3,b4,b5⟩ | ⟨e',_⟩
 ·rw [hs] at e';cases e';exact ⟨s,b1,rfl,fun x=>⟨fun hx=>b3 x hx,fun hx=>zGY hT hc hd h0 b4 b5 _ ⟨hx.wt hT hc hd,rfl⟩ hx⟩⟩
 ·rw [hs] at e';cases e'
theorem zKC {n i k:Nat} (hk:k<n):num (omgL n i) k=if k=i then 1 else 0:=zAy hk
theorem zFe:∀(m:Nat) {c:List (List Int)},FinP c→c.length≤m→Crd c (rhoL c.length) (szP c)
 | 0,c,h,hm=>absurd h.cart.pos (by omega)
 | m+1,c,h,hm=>by
  have hT:=h.cor;have hc:=h.cart;have hk:=h.all zMy;unfold chkZ at hk;rw [Bool.and_eq_true] at hk;obtain ⟨k1,k2⟩:=hk;have hl:=of_decide_eq_true k1;cases e:qBfs c 201 0 [omgL c.length (zE9 c)] with
  | none=>rw [e] at k2; cases k2
  | some s =>
   rw [e] at k2;have k3:s.length*szQ (Fin.sub c (zA6 (omgL c.length (zE9 c)) c.length))=szP c:=by simpa using k2
   generalize hi:zE9 c=i at *;have hw:Wt c (cors c) (omgL c.length i):=zEL hT (by simp [omgL]) fun x hx=>by
    obtain ⟨k,_,rfl⟩:=List.mem_map.1 hx;split <;> omega
   have hd:zAD (omgL c.length i)=none:=zD3 (n:=c.length) (by simp [omgL]) fun k hk=>by rw [zKC hk]; split <;> omega
   have hq:=zN8 hT hc hw hd e;obtain ⟨q,q1,q2⟩:=zEM h (omgL c.length i);rw [<-k3];generalize hS:zA6 (omgL c.length i) c.length=S at *;have hmem:∀j,j∈S↔j<c.length∧num (omgL c.length i) j=0:=fun j=>by rw [<-hS]; exact zD9
   rcases Nat.eq_zero_or_pos S.length with h0 | h0
   ·have e0:S=[]:=List.eq_nil_of_length_eq_zero h0;subst e0;refine zH2 hT hc hw hd hmem (fun u hu=>?_) hq (M:=szQ (Fin.sub c [])) ?_
    ·cases u with
     | nil=>rfl
     | cons a u=>exact absurd (hu a (List.mem_cons_self ..)) (by simp)
    ·refine ⟨[[]],by simp,rfl,fun x=>⟨fun hx=>?_,fun hx=>?_⟩⟩
     ·rw [List.mem_singleton] at hx; subst hx; exact Rch.refl _ _
     ·obtain ⟨w,hw,rfl⟩:=hx;cases w with
      | nil=>exact List.mem_singleton.2 rfl
      | cons a u=>exact absurd (hw a (List.mem_cons_self ..)) (by simp [Fin.sub])
   ·have hF:=zGy h q1 q2 h0;have hsl:=zB5 c S;have hlen:S.length<c.length:=by
     obtain ⟨a1,a2,a3⟩:=zDz h.cart.le q1;rw [q2] at a1 a2 a3;have h7:(i::S).Nodup:=List.nodup_cons.2 ⟨fun hi=>by
      have:=((hmem i).1 hi).2;rw [zKC hl,if_pos rfl] at this;omega,a3⟩
     have:=zBk h7 (m:=List.range c.length) (fun x hx=>List.mem_range.2 (by
      rcases List.mem_cons.1 hx with rfl | hx
      ·exact hl
      ·exact a1 x hx))
     simp at this;omega
    have hR:=zFe m hF (by rw [hsl]; omega);rw [hsl] at hR;have e2:szQ (Fin.sub c S)=szP (Fin.sub c S):=by unfold szQ; rw [if_neg (by rw [hsl]; omega)]
    rw [e2];refine zH2 hT hc hw hd hmem (fun u hu=>?_) hq hR;have:=zBY hF.cor hF.cart (zDR hF.cor) (w:=u) (by rw [hsl]; exact hu);rwa [hsl] at this
theorem zNb {c:List (List Int)} (h:FinP c) {v:List Int} (hv:Wt c (cors c) v) {s:List (List Int)} (hs:obQ c v=some s) :
  szP c=s.length*szQ (Fin.sub c (zA6 (dmL c v) c.length)):=by
 have hT:=h.cor;have hc:=h.cart;obtain ⟨d1,d2⟩:=zDM hT hc hv;have hw:=d2.wt hT hc hv;have hq:=zN8 hT hc hw d1 hs;refine (zFe _ h (zQj _)).one ?_;obtain ⟨q,q1,q2⟩:=zEM h (dmL c v);generalize hS:zA6 (dmL c v) c.length=S at *;have hmem:∀j,j∈S↔j<c.length∧num (dmL c v) j=0:=fun j=>by rw [<-hS]; exact zD9
 rcases Nat.eq_zero_or_pos S.length with h0 | h0
 ·have e0:S=[]:=List.eq_nil_of_length_eq_zero h0;subst e0;refine zH2 hT hc hw d1 hmem (fun u hu=>?_) hq (M:=szQ (Fin.sub c [])) ?_
  ·cases u with
   | nil=>rfl
   | cons a u=>exact absurd (hu a (List.mem_cons_self ..)) (by simp)
  ·refine ⟨[[]],by simp,rfl,fun x=>⟨fun hx=>?_,fun hx=>?_⟩⟩
   ·rw [List.mem_singleton] at hx; subst hx; exact Rch.refl _ _
   ·obtain ⟨w,hw,rfl⟩:=hx;cases w with
    | nil=>exact List.mem_singleton.2 rfl
    | cons a u=>exact absurd (hw a (List.mem_cons_self ..)) (by simp [Fin.sub])
 ·have hF:=zGy h q1 q2 h0;have hsl:=zB5 c S;have hR:=zFe _ hF (zQj _);rw [hsl] at hR;have e2:szQ (Fin.sub c S)=szP (Fin.sub c S):=by unfold szQ; rw [if_neg (by rw [hsl]; omega)]
  rw [e2];refine zH2 hT hc hw d1 hmem (fun u hu=>?_) hq hR;have:=zBY hF.cor hF.cart (zDR hF.cor) (w:=u) (by rw [hsl]; exact hu);rwa [hsl] at this
end Go.Proofs.YtiohpndgemonjaaGreat
