/- Cartan matrices: what words do to roots, coroots and weights; the signs of roots; exchange. Plain: no program. -/
import Derived.Test.YtlchafedbnihoaaJGCart
import Derived.KernelRfl
namespace Go.Proofs.Ytlchafedbnihoaa.Cox
def dotN (f g:Nat→Int):Nat→Int
 | 0=>0
 | n+1=>dotN f g n+f n*g n
structure Car (n:Nat) (c:Nat→Nat→Int):Prop where
 diag:∀i,i<n→c i i=2
 off:∀i j,i<n→j<n→i≠j→-3≤c i j∧c i j≤0
 zero:∀i j,i<n→j<n→c i j=0→c j i=0
def tr (c:Nat→Nat→Int):Nat→Nat→Int:=fun i j=>c j i
theorem Car.tr {n:Nat} {c:Nat→Nat→Int} (h:Car n c):Car n (tr c):=⟨h.diag,fun i j hi hj hn=>h.off j i hj hi (fun e=>hn e.symm),fun i j hi hj=>h.zero j i hj hi⟩
def e (i:Nat):Nat→Int:=fun j=>if j=i then 1 else 0
def sR (n:Nat) (c:Nat→Nat→Int) (i:Nat) (r:Nat→Int):Nat→Int:=fun j=>r j-dotN (c i) r n*e i j
def sW (c:Nat→Nat→Int) (i:Nat) (m:Nat→Int):Nat→Int:=fun k=>m k-m i*c k i
def aR (n:Nat) (c:Nat→Nat→Int):List Nat→(Nat→Int)→(Nat→Int)
 | [],r=>r
 | i::w,r=>sR n c i (aR n c w r)
def aW (c:Nat→Nat→Int):List Nat→(Nat→Int)→(Nat→Int)
 | [],m=>m
 | i::w,m=>sW c i (aW c w m)
def Lets (n:Nat) (w:List Nat):Prop:=∀i∈w,i<n
theorem zA5 (f g h:Nat→Int) (a b:Int):∀n,dotN f (fun k=>a*g k+b*h k) n=a*dotN f g n+b*dotN f h n
 | 0=>by simp [dotN]
 | n+1=>by
  simp only [dotN,zA5 f g h a b n];rw [Int.mul_add,Int.mul_add,Int.mul_add,Int.mul_left_comm (f n) a,Int.mul_left_comm (f n) b];omega
theorem dotN_comm (f g:Nat→Int):∀n,dotN f g n=dotN g f n
 | 0=>rfl
 | n+1=>by simp only [dotN,dotN_comm f g n,Int.mul_comm]
theorem zBQ (f g h:Nat→Int) (b:Int) (n:Nat):dotN f (fun k=>g k-b*h k) n=dotN f g n-b*dotN f h n:=by
 have:=zA5 f g h 1 (-b) n;rw [show (fun k=>g k-b*h k)=(fun k=>1*g k + -b*h k) from funext fun k=>by rw [Int.one_mul,Int.neg_mul]; omega,this,Int.one_mul,Int.neg_mul];omega
theorem zFm (f:Nat→Int) (i:Nat):∀n,n≤i→dotN f (e i) n=0
 | 0,_=>rfl
 | n+1,h=>by
  simp only [dotN,zFm f i n (by omega),e];rw [if_neg (by omega)];simp
theorem dotN_e (f:Nat→Int) (i:Nat):∀n,i<n→dotN f (e i) n=f i
 | 0,h=>by omega
 | n+1,h=>by
  simp only [dotN];by_cases hn:n=i
  ·subst hn;rw [zFm f n n (zJm _)];simp [e]
  ·rw [dotN_e f i n (by omega)];have:e i n=0:=by unfold e; rw [if_neg hn]
   simp [this]
theorem dotN_congr {f g h:Nat→Int}:∀{n:Nat},(∀k,k<n→g k=h k)→dotN f g n=dotN f h n
 | 0,_=>rfl
 | n+1,hh=>by
  simp only [dotN,dotN_congr (n:=n) (fun k hk=>hh k (by omega)),hh n (by omega)]
theorem zJQ (n:Nat) (c:Nat→Nat→Int) (i:Nat) (f g:Nat→Int) (a b:Int):sR n c i (fun k=>a*f k+b*g k)=fun k=>a*sR n c i f k+b*sR n c i g k:=by
 funext k;simp only [sR,zA5];rw [Int.mul_sub,Int.mul_sub,Int.add_mul,Int.mul_assoc,Int.mul_assoc];omega
theorem zBq (n:Nat) (c:Nat→Nat→Int) (f g:Nat→Int) (a b:Int):∀w,aR n c w (fun k=>a*f k+b*g k)=fun k=>a*aR n c w f k+b*aR n c w g k
 | []=>rfl
 | i::w=>by simp only [aR,zBq n c f g a b w,zJQ]
theorem zGV (n:Nat) (c:Nat→Nat→Int) (f g:Nat→Int) (b:Int) (w:List Nat):aR n c w (fun k=>f k-b*g k)=fun k=>aR n c w f k-b*aR n c w g k:=by
 have:=zBq n c f g 1 (-b) w;rw [show (fun k=>f k-b*g k)=(fun k=>1*f k + -b*g k) from funext fun k=>by rw [Int.one_mul,Int.neg_mul]; omega,this];funext k;rw [Int.one_mul,Int.neg_mul]; omega
theorem zJR (c:Nat→Nat→Int) (i:Nat) (f g:Nat→Int) (a b:Int):sW c i (fun k=>a*f k+b*g k)=fun k=>a*sW c i f k+b*sW c i g k:=by
 funext k;simp only [sW];rw [Int.mul_sub,Int.mul_sub,Int.add_mul,Int.mul_assoc,Int.mul_assoc];omega
theorem zGW (c:Nat→Nat→Int) (f g:Nat→Int) (a b:Int):∀w,aW c w (fun k=>a*f k+b*g k)=fun k=>a*aW c w f k+b*aW c w g k
 | []=>rfl
 | i::w=>by simp only [aW,zGW c f g a b w,zJR]
theorem zDo (c:Nat→Nat→Int) (f g:Nat→Int) (b:Int) (w:List Nat):aW c w (fun k=>f k-b*g k)=fun k=>aW c w f k-b*aW c w g k:=by
 have:=zGW c f g 1 (-b) w;rw [show (fun k=>f k-b*g k)=(fun k=>1*f k + -b*g k) from funext fun k=>by rw [Int.one_mul,Int.neg_mul]; omega,this];funext k;rw [Int.one_mul,Int.neg_mul]; omega
theorem zAU (n:Nat) (c:Nat→Nat→Int) (r:Nat→Int) (w':List Nat):∀w,aR n c (w++w') r=aR n c w (aR n c w' r)
 | []=>rfl
 | i::w=>by simp only [List.cons_append,aR,zAU n c r w' w]
theorem zBC (c:Nat→Nat→Int) (r:Nat→Int) (w':List Nat):∀w,aW c (w++w') r=aW c w (aW c w' r)
 | []=>rfl
 | i::w=>by simp only [List.cons_append,aW,zBC c r w' w]
section
variable {n:Nat} {c:Nat→Nat→Int}
theorem zFC (h:Car n c) {i:Nat} (hi:i<n) (r:Nat→Int):sR n c i (sR n c i r)=r:=by
 funext k;have:dotN (c i) (sR n c i r) n = - dotN (c i) r n:=by
  unfold sR;rw [zBQ,dotN_e _ _ _ hi,h.diag i hi];omega
 show sR n c i r k-dotN (c i) (sR n c i r) n*e i k=r k;rw [this,Int.neg_mul];simp only [sR];omega
theorem sW_two (h:Car n c) {i:Nat} (hi:i<n) (m:Nat→Int):sW c i (sW c i m)=m:=by
 funext k;simp only [sW,h.diag i hi];rw [show m i-m i*2 = - m i by omega,Int.neg_mul];omega
def bil (n:Nat) (c:Nat→Nat→Int) (x r:Nat→Int):Int:=dotN x (fun i=>dotN (c i) r n) n
theorem zHz {i:Nat} (hi:i<n) (x r:Nat→Int):bil n c (sR n (tr c) i x) r=bil n c x (sR n c i r):=by
 have h1:bil n c (sR n (tr c) i x) r=bil n c x r-dotN (tr c i) x n*dotN (c i) r n:=by
  unfold bil;rw [dotN_comm];unfold sR;rw [zBQ,dotN_comm,dotN_e _ _ _ hi]
 have h2:bil n c x (sR n c i r)=bil n c x r-dotN (c i) r n*dotN x (fun k=>c k i) n:=by
  unfold bil sR;rw [show (fun k=>dotN (c k) (fun j=>r j-dotN (c i) r n*e i j) n)=(fun k=>dotN (c k) r n-dotN (c i) r n*c k i) from funext fun k=>by rw [zBQ,dotN_e _ _ _ hi],zBQ]
 rw [h1,h2,Int.mul_comm,dotN_comm x];rfl
theorem zBf (h:Car n c) (x r:Nat→Int):∀{w:List Nat},Lets n w→bil n c (aR n (tr c) w x) (aR n c w r)=bil n c x r
 | [],_=>rfl
 | i::w,hw=>by
  have hi:i<n:=hw i (by simp);simp only [aR];rw [zHz hi,zFC h hi];exact zBf h x r fun j hj=>hw j (by simp [hj])
theorem zCC {i j:Nat} (hi:i<n) (hj:j<n):bil n c (e i) (e j)=c i j:=by
 unfold bil;rw [dotN_comm,dotN_e _ _ _ hi,dotN_e _ _ _ hj]
theorem zGb {i:Nat} (hi:i<n) (r:Nat→Int):bil n c (e i) r=dotN (c i) r n:=by
 unfold bil;rw [dotN_comm,dotN_e _ _ _ hi]
theorem wt_adj {i:Nat} (x m:Nat→Int) (hi:i<n):dotN (sR n (tr c) i x) m n=dotN x (sW c i m) n:=by
 have h1:dotN (sR n (tr c) i x) m n=dotN x m n-dotN (tr c i) x n*m i:=by
  rw [dotN_comm];unfold sR;rw [zBQ,dotN_comm,dotN_e _ _ _ hi]
 have h2:dotN x (sW c i m) n=dotN x m n-m i*dotN x (fun k=>c k i) n:=by
  unfold sW;rw [zBQ]
 rw [h1,h2,Int.mul_comm,dotN_comm x (fun k=>c k i)];rfl
theorem zFM (h:Car n c) (x m:Nat→Int):∀{w:List Nat},Lets n w→dotN (aR n (tr c) w x) (aW c w m) n=dotN x m n
 | [],_=>rfl
 | i::w,hw=>by
  have hi:i<n:=hw i (by simp);simp only [aR,aW];rw [wt_adj _ _ hi,sW_two h hi];exact zFM h x m fun j hj=>hw j (by simp [hj])
def wt (n:Nat) (c:Nat→Nat→Int) (r:Nat→Int):Nat→Int:=fun k=>dotN (c k) r n
theorem wt_s {i:Nat} (hi:i<n) (r:Nat→Int):wt n c (sR n c i r)=sW c i (wt n c r):=by
 funext k;unfold wt sW sR;rw [zBQ,dotN_e _ _ _ hi]
theorem wt_a (r:Nat→Int):∀{w:List Nat},Lets n w→wt n c (aR n c w r)=aW c w (wt n c r)
 | [],_=>rfl
 | i::w,hw=>by
  have hi:i<n:=hw i (by simp);simp only [aR,aW];rw [wt_s hi,wt_a r fun j hj=>hw j (by simp [hj])]
structure Eqv (n:Nat) (c:Nat→Nat→Int) (w w':List Nat):Prop where
 r:∀r,aR n c w r=aR n c w' r
 x:∀x,aR n (tr c) w x=aR n (tr c) w' x
 m:∀m,aW c w m=aW c w' m
theorem Eqv.refl (w:List Nat):Eqv n c w w:=⟨fun _=>rfl,fun _=>rfl,fun _=>rfl⟩
theorem Eqv.symm {a b:List Nat} (h:Eqv n c a b):Eqv n c b a:=⟨fun r=>(h.r r).symm,fun r=>(h.x r).symm,fun r=>(h.m r).symm⟩
theorem Eqv.trans {a b d:List Nat} (h:Eqv n c a b) (k:Eqv n c b d):Eqv n c a d:=⟨fun r=>(h.r r).trans (k.r r),fun r=>(h.x r).trans (k.x r),fun r=>(h.m r).trans (k.m r)⟩
theorem Eqv.app {a b a' b':List Nat} (h:Eqv n c a b) (k:Eqv n c a' b'):Eqv n c (a++a') (b++b') :=
 ⟨fun r=>by rw [zAU,zAU,h.r,k.r],fun r=>by rw [zAU,zAU,h.x,k.x],fun r=>by rw [zBC,zBC,h.m,k.m]⟩
theorem Eqv.two (h:Car n c) {i:Nat} (hi:i<n):Eqv n c [i,i] []:=⟨fun r=>zFC h hi r,fun r=>zFC h.tr hi r,fun r=>sW_two h hi r⟩
theorem zGh (h:Car n c) {y:List Nat} {s k:Nat} (hy:Lets n y) (hs:s<n) (hk:k<n) (h1:aR n c y (e s)=e k) (h2:aR n (tr c) y (e s)=e k) (r:Nat→Int):aR n c (y++[s]) r=aR n c (k::y) r:=by
 rw [zAU];show aR n c y (sR n c s r)=sR n c k (aR n c y r);unfold sR;rw [zGV,h1,<-zGb hk,<-zGb hs,<-h2,zBf h _ _ hy]
theorem zJE (h:Car n c) {y:List Nat} {s k:Nat} (hy:Lets n y) (hs:s<n) (hk:k<n) (h1:aR n c y (e s)=e k) (h2:aR n (tr c) y (e s)=e k) (m:Nat→Int):aW c (y++[s]) m=aW c (k::y) m:=by
 rw [zBC];show aW c y (sW c s m)=sW c k (aW c y m);have e1:∀(i:Nat) (hi:i<n),(fun a=>c a i)=wt n c (e i):=fun i hi=>funext fun a=>by unfold wt; rw [dotN_e _ _ _ hi]
 have e2:∀(i:Nat) (hi:i<n) (v:Nat→Int),v i=dotN (e i) v n:=fun i hi v=>by rw [dotN_comm,dotN_e _ _ _ hi]
 have e3:m s=aW c y m k:=by rw [e2 s hs m,e2 k hk (aW c y m),<-h2,zFM h _ _ hy]
 unfold sW;have e4:=zDo c m (fun a=>c a s) (m s) y;rw [e4,e1 s hs,<-wt_a _ hy,h1,<-e1 k hk,e3]
theorem comm (h:Car n c) {y:List Nat} {s k:Nat} (hy:Lets n y) (hs:s<n) (hk:k<n) (h1:aR n c y (e s)=e k) (h2:aR n (tr c) y (e s)=e k):Eqv n c (y++[s]) (k::y) :=
 ⟨zGh h hy hs hk h1 h2,zGh h.tr hy hs hk h2 h1,zJE h hy hs hk h1 h2⟩
def Pos (n:Nat) (r:Nat→Int):Prop:=∀k,k<n→0≤r k
def Neg (n:Nat) (r:Nat→Int):Prop:=∀k,k<n→r k≤0
def PosA (n:Nat) (c:Nat→Nat→Int) (w:List Nat) (s:Nat):Prop:=Pos n (aR n c w (e s))∧Pos n (aR n (tr c) w (e s))
def NegA (n:Nat) (c:Nat→Nat→Int) (w:List Nat) (s:Nat):Prop:=Neg n (aR n c w (e s))∧Neg n (aR n (tr c) w (e s))
def Coh (n:Nat) (c:Nat→Nat→Int) (w:List Nat) (s:Nat):Prop:=PosA n c w s∨NegA n c w s
theorem zBZ {j:Nat} (hj:n≤j) (r:Nat→Int):∀{w:List Nat},Lets n w→aR n c w r j=r j
 | [],_=>rfl
 | i::w,hw=>by
  have hi:i<n:=hw i (by simp);have:e i j=0:=by unfold e; rw [if_neg (by omega)]
  simp only [aR,sR,this,Int.mul_zero,Int.sub_zero];exact zBZ hj r fun j hj=>hw j (by simp [hj])
theorem zBH {k:Nat} {r:Nat→Int} (h1:Pos n r) (h2:Neg n (sR n c k r)) (h0:∀j,n≤j→r j=0):r=fun j=>r k*e k j:=by
 funext j;by_cases hjk:j=k
 ·subst hjk; simp [e]
 ·have e0:e k j=0:=by unfold e; rw [if_neg hjk]
  rw [e0,Int.mul_zero];by_cases hj:j<n
  ·have a1:=h1 j hj;have a2:=h2 j hj;simp only [sR,e0,Int.mul_zero,Int.sub_zero] at a2;omega
  ·exact h0 j (by omega)
theorem zBu {s:Nat} (hs:s<n) {j:Nat} (hj:n≤j):e s j=0:=by unfold e; rw [if_neg (by omega)]
theorem dotN_scale (f g:Nat→Int) (a:Int) (n:Nat):dotN f (fun k=>a*g k) n=a*dotN f g n:=by
 have:=zA5 f g g a 0 n;simpa using this
theorem zCs (x r:Nat→Int) (a b:Int):bil n c (fun j=>a*x j) (fun j=>b*r j)=a*b*bil n c x r:=by
 unfold bil;rw [dotN_comm,dotN_scale,dotN_comm];rw [show (fun i=>dotN (c i) (fun j=>b*r j) n)=(fun i=>b*dotN (c i) r n) from funext fun i=>dotN_scale _ _ _ _,dotN_scale,Int.mul_assoc]
theorem zB4 (h:Car n c) {s:Nat} (hs:s<n):∀{w:List Nat},Lets n w→(∀y,y.length<w.length→Lets n y→Coh n c y s)→NegA n c w s→∃w',Lets n w'∧w'.length+1=w.length∧Eqv n c (w++[s]) w'
 | [],_,_,hn=>by
  have:=hn.1 s hs;simp [aR,e] at this
 | k::y,hw,hc,hn=>by
  have hk:k<n:=hw k (by simp);have hy:Lets n y:=fun j hj=>hw j (by simp [hj]);rcases hc y (by simp) hy with hp | hn'
  ·have hr:=zBH hp.1 hn.1 (fun j hj=>by rw [zBZ hj _ hy,zBu hs hj]);have hx:=zBH (c:=tr c) hp.2 hn.2 (fun j hj=>by rw [zBZ hj _ hy,zBu hs hj]);have hb:=zBf h (e s) (e s) hy;rw [hr,hx,zCs,zCC hk hk,zCC hs hs,h.diag k hk,h.diag s hs] at hb;have p1:=hp.1 k hk;have p2:=hp.2 k hk;generalize aR n c y (e s) k=a at *;generalize aR n (tr c) y (e s) k=b at *;have hab:b*a=1:=by omega
   have ha:a=1:=Int.eq_one_of_mul_eq_one_left p1 hab;have hb1:b=1:=by rw [ha] at hab; omega
   subst ha; subst hb1;have h1:aR n c y (e s)=e k:=by rw [hr]; funext j; simp
   have h2:aR n (tr c) y (e s)=e k:=by rw [hx]; funext j; simp
   refine ⟨y,hy,by simp,?_⟩;have h3:=comm h hy hs hk h1 h2;have h4:Eqv n c (k::(y++[s])) ([k]++(k::y)):=(Eqv.refl [k]).app h3;have h5:Eqv n c ([k,k]++y) ([]++y):=(Eqv.two h hk).app (Eqv.refl y);exact h4.trans h5
  ·obtain ⟨w',h1,h2,h3⟩:=zB4 h hs hy (fun z hz hz'=>hc z (by simp; omega) hz') hn';refine ⟨k::w',fun j hj=>?_,by simp; omega,(Eqv.refl [k]).app h3⟩;rcases List.mem_cons.1 hj with rfl | hj
   ·exact hk
   ·exact h1 j hj
end
end Go.Proofs.Ytlchafedbnihoaa.Cox
namespace Go.Proofs.Ytlchafedbnihoaa.Cox
structure St where
 a:Int
 b:Int
 a':Int
 b':Int
deriving DecidableEq
def stS (p q:Int) (x:St):St:=⟨-x.a+p*x.b,x.b,-x.a'+q*x.b',x.b'⟩
def stT (p q:Int) (x:St):St:=⟨x.a,-x.b+q*x.a,x.a',-x.b'+p*x.a'⟩
def St.neg (x:St):St:=⟨-x.a,-x.b,-x.a',-x.b'⟩
def up (p q:Int):Nat→St
 | 0=>⟨1,0,1,0⟩
 | k+1=>if k % 2=0 then stT p q (up p q k) else stS p q (up p q k)
theorem St.ext' {x y:St} (h1:x.a=y.a) (h2:x.b=y.b) (h3:x.a'=y.a') (h4:x.b'=y.b'):x=y:=by
 cases x; cases y; simp_all
theorem zIt (p q:Int) (x:St):stS p q (stS p q x)=x:=by
 apply St.ext' <;> simp only [stS] <;> omega
theorem zIv (p q:Int) (x:St):stT p q (stT p q x)=x:=by
 apply St.ext' <;> simp only [stT] <;> omega
theorem zIs (p q:Int) (x:St):stS p q x.neg=(stS p q x).neg:=by
 apply St.ext' <;> simp only [stS,St.neg,Int.mul_neg] <;> omega
theorem zIu (p q:Int) (x:St):stT p q x.neg=(stT p q x).neg:=by
 apply St.ext' <;> simp only [stT,St.neg,Int.mul_neg] <;> omega
theorem zE2 (x:St):x.neg.neg=x:=by
 apply St.ext' <;> simp only [St.neg] <;> omega
def zCX (p q:Int) (x:St):Prop:=∃k,x=up p q k∨x=(up p q k).neg
theorem zIj {p q:Int} {x:St} (h:zCX p q x):zCX p q (stT p q x):=by
 have key:∀k,zCX p q (stT p q (up p q k)):=by
  intro k;by_cases hk:k % 2=0
  ·exact ⟨k+1,.inl (by simp [up,hk])⟩
  ·obtain ⟨j,rfl⟩:∃j,k=j+1:=⟨k-1,by omega⟩;have hj:j % 2=0:=by omega
   exact ⟨j,.inl (by simp only [up,hj,if_true]; exact zIv p q _)⟩
 obtain ⟨k,rfl | rfl⟩:=h
 ·exact key k
 ·rw [zIu];obtain ⟨j,h | h⟩:=key k
  ·exact ⟨j,.inr (by rw [h])⟩
  ·exact ⟨j,.inl (by rw [h,zE2])⟩
theorem zIi {p q:Int} {x:St} (h:zCX p q x):zCX p q (stS p q x):=by
 have key:∀k,zCX p q (stS p q (up p q k)):=by
  intro k;rcases k with _ | j
  ·exact ⟨0,.inr (by apply St.ext' <;> simp [stS,up,St.neg])⟩
  ·by_cases hk:j % 2=0
   ·have hj:(j+1) % 2≠0:=by omega
    exact ⟨j+2,.inl (by rw [show up p q (j+2)=if (j+1) % 2=0 then stT p q (up p q (j+1)) else stS p q (up p q (j+1)) from rfl,if_neg hj])⟩
   ·exact ⟨j,.inl (by simp only [up,hk,if_false]; exact zIt p q _)⟩
 obtain ⟨k,rfl | rfl⟩:=h
 ·exact key k
 ·rw [zIs];obtain ⟨j,h | h⟩:=key k
  ·exact ⟨j,.inr (by rw [h])⟩
  ·exact ⟨j,.inl (by rw [h,zE2])⟩
def Coh4 (x:St):Prop:=(0≤x.a∧0≤x.b∧0≤x.a'∧0≤x.b')∨(x.a≤0∧x.b≤0∧x.a'≤0∧x.b'≤0)
instance (x:St):Decidable (Coh4 x):=by unfold Coh4; infer_instance
theorem zGB (p q:Int) (k:Nat):up p q (k+1)=if k % 2=0 then stT p q (up p q k) else stS p q (up p q k):=rfl
theorem zHR {p q:Int} (h:up p q 24=up p q 0) (k:Nat):up p q (24+k)=up p q k:=by
 induction k with
 | zero=>exact h
 | succ k ih =>
  have e1:(24+k) % 2=k % 2:=by omega
  rw [<-Nat.add_assoc,zGB,zGB,e1,ih]
theorem zIC {p q:Int} (h:up p q 24=up p q 0) (h2:∀k,k<24→Coh4 (up p q k)) (k:Nat):Coh4 (up p q k):=by
 induction k using Nat.strongRecOn with
 | _ k ih =>
  by_cases hk:k<24
  ·exact h2 k hk
  ·have:=ih (k-24) (by omega);rw [<-zHR h (k-24),show 24+(k-24)=k by omega] at this;exact this
theorem zFj {p q:Int} (hp:2≤p∧p≤3) (hq:2≤q∧q≤3):∀k,0≤(up p q k).a∧0≤(up p q k).b∧0≤(up p q k).a'∧0≤(up p q k).b' ∧
  (k % 2=0→2*(up p q k).b≤q*(up p q k).a∧2*(up p q k).b'≤p*(up p q k).a')∧(k % 2=1→2*(up p q k).a≤p*(up p q k).b∧2*(up p q k).a'≤q*(up p q k).b')
 | 0=>by
  simp only [up];omega
 | k+1=>by
  obtain ⟨h1,h2,h3,h4,h5,h6⟩:=zFj hp hq k;by_cases hk:k % 2=0
  ·obtain ⟨h5,h7⟩:=h5 hk;simp only [up,hk,if_true,stT];generalize up p q k=x at *;have cp:p=2∨p=3:=by omega
   have cq:q=2∨q=3:=by omega
   rcases cp with rfl | rfl <;> rcases cq with rfl | rfl <;> omega
  ·obtain ⟨h6,h7⟩:=h6 (by omega);simp only [up,hk,if_false,stS];generalize up p q k=x at *;have cp:p=2∨p=3:=by omega
   have cq:q=2∨q=3:=by omega
   rcases cp with rfl | rfl <;> rcases cq with rfl | rfl <;> omega
theorem zGg {p q:Int} (hp:0≤p∧p≤3) (hq:0≤q∧q≤3) (h0:p=0↔q=0) (k:Nat):Coh4 (up p q k):=by
 by_cases h4:2≤p∧2≤q
 ·have:=zFj ⟨h4.1,hp.2⟩ ⟨h4.2,hq.2⟩ k;exact .inl ⟨this.1,this.2.1,this.2.2.1,this.2.2.2.1⟩
 ·have hc:(p=0∧q=0)∨(p=1∧q=1)∨(p=1∧q=2)∨(p=1∧q=3)∨(p=2∧q=1)∨(p=3∧q=1):=by omega
  rcases hc with ⟨rfl,rfl⟩ | ⟨rfl,rfl⟩ | ⟨rfl,rfl⟩ | ⟨rfl,rfl⟩ | ⟨rfl,rfl⟩ | ⟨rfl,rfl⟩ <;> exact zIC (by decide) (by decide) k
def run (p q:Int):List Bool→St
 | []=>⟨1,0,1,0⟩
 | true::x=>stS p q (run p q x)
 | false::x=>stT p q (run p q x)
theorem zIo {p q:Int} (hp:0≤p∧p≤3) (hq:0≤q∧q≤3) (h0:p=0↔q=0) (x:List Bool):Coh4 (run p q x):=by
 have h:zCX p q (run p q x):=by
  induction x with
  | nil=>exact ⟨0,.inl rfl⟩
  | cons b x ih =>
   cases b
   ·exact zIj ih
   ·exact zIi ih
 obtain ⟨k,h | h⟩:=h
 ·rw [h]; exact zGg hp hq h0 k
 ·rw [h];have:=zGg hp hq h0 k;unfold Coh4 at *;simp only [St.neg];omega
end Go.Proofs.Ytlchafedbnihoaa.Cox
namespace Go.Proofs.Ytlchafedbnihoaa.Cox
section
variable {n:Nat} {c:Nat→Nat→Int}
def toW (s t:Nat) (x:List Bool):List Nat:=x.map fun b=>if b then s else t
theorem zFx {s t:Nat} (hs:s<n) (ht:t<n) (a b:Int) (i:Nat):sR n c i (fun j=>a*e s j+b*e t j)=fun j=>(a*e s j+b*e t j)-(a*c i s+b*c i t)*e i j:=by
 unfold sR;rw [zA5,dotN_e _ _ _ hs,dotN_e _ _ _ ht]
theorem zHk (h:Car n c) {s t:Nat} (hs:s<n) (ht:t<n) (x:List Bool) :
  aR n c (toW s t x) (e s)=(fun j=>(run (-c s t) (-c t s) x).a*e s j+(run (-c s t) (-c t s) x).b*e t j) ∧
  aR n (tr c) (toW s t x) (e s)=(fun j=>(run (-c s t) (-c t s) x).a'*e s j+(run (-c s t) (-c t s) x).b'*e t j):=by
 induction x with
 | nil=>exact ⟨by funext j; simp [toW,aR,run],by funext j; simp [toW,aR,run]⟩
 | cons b x ih =>
  obtain ⟨h1,h2⟩:=ih;cases b
  ·have e1:toW s t (false::x)=t::toW s t x:=rfl;rw [e1];simp only [aR,h1,h2,run,stT,zFx hs ht,h.diag t ht,show tr c t s=c s t from rfl,show tr c t t=c t t from rfl];generalize run (-c s t) (-c t s) x=y;refine ⟨funext fun j=>?_,funext fun j=>?_⟩
   ·rw [Int.add_mul,Int.add_mul,Int.neg_mul,Int.neg_mul,Int.mul_assoc y.b,Int.mul_left_comm y.b,Int.mul_comm (c t s) y.a,Int.neg_mul]; omega
   ·rw [Int.add_mul,Int.add_mul,Int.neg_mul,Int.neg_mul,Int.mul_assoc y.b',Int.mul_left_comm y.b',Int.mul_comm (c s t) y.a',Int.neg_mul]; omega
  ·have e1:toW s t (true::x)=s::toW s t x:=rfl;rw [e1];simp only [aR,h1,h2,run,stS,zFx hs ht,h.diag s hs,show tr c s t=c t s from rfl,show tr c s s=c s s from rfl];generalize run (-c s t) (-c t s) x=y;refine ⟨funext fun j=>?_,funext fun j=>?_⟩
   ·rw [Int.add_mul,Int.add_mul,Int.neg_mul,Int.neg_mul,Int.mul_assoc y.a,Int.mul_left_comm y.a,Int.mul_comm (c s t) y.b,Int.neg_mul]; omega
   ·rw [Int.add_mul,Int.add_mul,Int.neg_mul,Int.neg_mul,Int.mul_assoc y.a',Int.mul_left_comm y.a',Int.mul_comm (c t s) y.b',Int.neg_mul]; omega
theorem zFi {w w':List Nat} {s:Nat} (h:Eqv n c w w') (k:Coh n c w' s):Coh n c w s:=by
 unfold Coh PosA NegA at *;rw [h.r,h.x];exact k
theorem zFG {v x:List Nat} {s:Nat} (h:Car n c) (hs:s<n) (hv:Lets n v) (hc:∀y,y.length<v.length→Lets n y→Coh n c y s) (hn:NegA n c v s) :
  ∃v',Lets n v'∧v'.length+1=v.length∧Eqv n c (v++x) (v'++(s::x)):=by
 obtain ⟨v',h1,h2,h3⟩:=zB4 h hs hv hc hn;refine ⟨v',h1,h2,?_⟩;have h4:Eqv n c ((v++[s])++(s::x)) (v'++(s::x)):=h3.app (Eqv.refl _);have h5:Eqv n c (v++([s,s]++x)) (v++([]++x)):=(Eqv.refl v).app ((Eqv.two h hs).app (Eqv.refl x));have e1:(v++[s])++(s::x)=v++([s,s]++x):=by simp
 rw [e1] at h4;exact h5.symm.trans h4
theorem zID (h:Car n c) {s t:Nat} (hs:s<n) (ht:t<n) (hst:s≠t) {N:Nat} (ih:∀w,w.length≤N→Lets n w→∀i,i<n→Coh n c w i) :
  ∀(L:Nat) (v:List Nat) (x:List Bool),v.length=L→L≤N→Lets n v→Coh n c (v++toW s t x) s:=by
 intro L
 induction L using Nat.strongRecOn with
 | _ L ihL =>
  intro v x hvl hL hv;have hv':v.length≤N:=by omega
  rcases ih v hv' hv s hs with ps | ns
  ·rcases ih v hv' hv t ht with pt | nt
   ·have hp:=h.off s t hs ht hst;have hq:=h.off t s ht hs (fun e=>hst e.symm);have hc:=zIo (p:=-c s t) (q:=-c t s) (by omega) (by omega) (by
     have h1:=h.zero s t hs ht;have h2:=h.zero t s ht hs;omega) x
    obtain ⟨h1,h2⟩:=zHk h hs ht x;unfold Coh PosA NegA;rw [zAU,zAU,h1,h2,zBq,zBq];generalize run (-c s t) (-c t s) x=y at *;rcases hc with ⟨a1,a2,a3,a4⟩ | ⟨a1,a2,a3,a4⟩
    ·refine .inl ⟨fun k hk=>?_,fun k hk=>?_⟩
     ·have:=Int.mul_nonneg a1 (ps.1 k hk);have:=Int.mul_nonneg a2 (pt.1 k hk);show 0≤_*_+_*_;omega
     ·have:=Int.mul_nonneg a3 (ps.2 k hk);have:=Int.mul_nonneg a4 (pt.2 k hk);show 0≤_*_+_*_;omega
    ·refine .inr ⟨fun k hk=>?_,fun k hk=>?_⟩
     ·have:=Int.mul_nonneg (a:=-y.a) (by omega) (ps.1 k hk);have:=Int.mul_nonneg (a:=-y.b) (by omega) (pt.1 k hk);rw [Int.neg_mul] at *;show y.a*_+y.b*_≤0;omega
     ·have:=Int.mul_nonneg (a:=-y.a') (by omega) (ps.2 k hk);have:=Int.mul_nonneg (a:=-y.b') (by omega) (pt.2 k hk);rw [Int.neg_mul] at *;show y.a'*_+y.b'*_≤0;omega
   ·obtain ⟨v',h1,h2,h3⟩:=zFG (x:=toW s t x) h ht hv (fun y hy hy'=>ih y (by omega) hy' t ht) nt;exact zFi h3 (ihL v'.length (by omega) v' (false::x) rfl (by omega) h1)
  ·obtain ⟨v',h1,h2,h3⟩:=zFG (x:=toW s t x) h hs hv (fun y hy hy'=>ih y (by omega) hy' s hs) ns;exact zFi h3 (ihL v'.length (by omega) v' (true::x) rfl (by omega) h1)
theorem zCd (h:Car n c):∀(N:Nat) (w:List Nat),w.length≤N→Lets n w→∀s,s<n→Coh n c w s
 | 0,w,hw,_,s,hs=>by
  have:w=[]:=List.eq_nil_of_length_eq_zero (by omega);subst this;refine .inl ⟨fun k _=>?_,fun k _=>?_⟩ <;> (simp only [aR,e]; split <;> omega)
 | N+1,w,hw,hl,s,hs=>by
  rcases List.eq_nil_or_concat w with rfl | ⟨v,t,rfl⟩
  ·exact zCd h N [] (by simp) hl s hs
  ·have hvl:v.length≤N:=by simp at hw; omega
   have hv:Lets n v:=fun i hi=>hl i (by simp [hi]);have ht:t<n:=hl t (by simp);by_cases hst:s=t
   ·subst hst;have hsub:∀(d:Nat→Nat→Int),Car n d→aR n d (v++[s]) (e s)=fun k=>- aR n d v (e s) k:=by
     intro d hd;rw [zAU];show aR n d v (sR n d s (e s))=_;have:sR n d s (e s)=fun k=>(-1)*e s k+0*e s k:=by
      funext k;unfold sR;rw [dotN_e _ _ _ hs,hd.diag s hs];omega
     rw [this,zBq];funext k;omega
    simp only [List.concat_eq_append];unfold Coh PosA NegA;rw [hsub c h,hsub (tr c) h.tr];rcases zCd h N v hvl hv s hs with hh | hh
    ·refine .inr ⟨fun k hk=>?_,fun k hk=>?_⟩
     ·have:=hh.1 k hk; show -_≤_; omega
     ·have:=hh.2 k hk; show -_≤_; omega
    ·refine .inl ⟨fun k hk=>?_,fun k hk=>?_⟩
     ·have:=hh.1 k hk; show _≤-_; omega
     ·have:=hh.2 k hk; show _≤-_; omega
   ·simp only [List.concat_eq_append];exact zID h hs ht hst (fun w hw hl i hi=>zCd h N w hw hl i hi) v.length v [false] rfl hvl hv
theorem coh (h:Car n c) {w:List Nat} (hw:Lets n w) {s:Nat} (hs:s<n):Coh n c w s:=zCd h w.length w (zJm _) hw s hs
def one:Nat→Int:=fun _=>1
theorem zA9:∀{n:Nat} {x:Nat→Int},Pos n x→0≤dotN x one n∧(dotN x one n=0→∀k,k<n→x k=0)
 | 0,_,_=>⟨Int.le_refl _,fun _ k hk=>by omega⟩
 | n+1,x,h=>by
  obtain ⟨h1,h2⟩:=zA9 (n:=n) (x:=x) (fun k hk=>h k (by omega));have h3:=h n (by omega);simp only [dotN,one,Int.mul_one] at *;refine ⟨by omega,fun h0 k hk=>?_⟩;by_cases hkn:k=n
  ·subst hkn; omega
  ·exact h2 (by omega) k (by omega)
theorem zCv {x f:Nat→Int} {n:Nat} (h:∀k,k<n→x k=0):dotN x f n=0:=by
 rw [dotN_comm,dotN_congr (h:=fun k=>0*0) (fun k hk=>by rw [h k hk]; rfl)];have:=zA5 f (fun _=>0) (fun _=>0) 0 0 n;simpa using this
theorem lets_rev {w:List Nat} (h:Lets n w):Lets n w.reverse:=fun i hi=>h i (by simpa using hi)
theorem zB2 (h:Car n c) (m:Nat→Int):∀{w:List Nat},Lets n w→aW c w.reverse (aW c w m)=m
 | [],_=>rfl
 | i::w,hw=>by
  have hi:i<n:=hw i (by simp);rw [List.reverse_cons,zBC];show aW c w.reverse (sW c i (sW c i (aW c w m)))=m;rw [sW_two h hi];exact zB2 h m fun j hj=>hw j (by simp [hj])
theorem zFa (h:Car n c) (m:Nat→Int) {w:List Nat} (hw:Lets n w):aW c w (aW c w.reverse m)=m:=by
 have:=zB2 h m (lets_rev hw);rwa [List.reverse_reverse] at this
theorem zCh (h:Car n c) {w:List Nat} (hw:Lets n w) {i:Nat} (hi:i<n) (m:Nat→Int):aW c w m i=dotN (aR n (tr c) w.reverse (e i)) m n:=by
 have h1:aW c w m i=dotN (e i) (aW c w m) n:=by rw [dotN_comm,dotN_e _ _ _ hi]
 rw [h1,<-zFM h (e i) (aW c w m) (lets_rev hw),zB2 h m hw]
theorem image_step (h:Car n c) {w:List Nat} (hw:Lets n w) {i:Nat} (hi:i<n) :
  aW c w one i≠0∧(aW c w one i<0→∃w',Lets n w'∧w'.length+1=w.length∧sW c i (aW c w one)=aW c w' one):=by
 rw [zCh h hw hi];have hr:=lets_rev hw;have hb:=zBf h (e i) (e i) hr;rw [zCC hi hi,h.diag i hi] at hb;rcases coh h hr hi with hp | hn
 ·obtain ⟨h1,h2⟩:=zA9 hp.2;refine ⟨fun h0=>?_,fun h0=>by omega⟩;have:=h2 h0;unfold bil at hb;rw [zCv this] at hb;omega
 ·have hneg:Pos n (fun k=>-1*aR n (tr c) w.reverse (e i) k+0*0):=fun k hk=>by have:=hn.2 k hk; show 0≤-1*_+0*0; omega
  obtain ⟨h1,h2⟩:=zA9 hneg;rw [dotN_comm,zA5 one (aR n (tr c) w.reverse (e i)) (fun _=>0) (-1) 0 n,dotN_comm] at h1 h2;refine ⟨fun h0=>?_,fun _=>?_⟩
  ·have h3:=h2 (by rw [h0]; omega);unfold bil at hb;rw [zCv (fun k hk=>by have:=h3 k hk; omega)] at hb;omega
  ·obtain ⟨w',a1,a2,a3⟩:=zB4 h hi hr (fun y _ hy=>coh h hy hi) hn;refine ⟨w'.reverse,lets_rev a1,by simp at a2 ⊢; omega,?_⟩;show aW c (i::w) one=aW c w'.reverse one;have e1:(i::w)=(w.reverse++[i]).reverse:=by simp
   have hl:Lets n (w.reverse++[i]):=fun j hj=>by
    rcases List.mem_append.1 hj with h | h
    ·exact hr j h
    ·simp at h; omega
   rw [e1];have b1:=zFa h one a1;have b2:=zB2 h (aW c w'.reverse one) hl;rw [a3.m,b1] at b2;exact b2
end
end Go.Proofs.Ytlchafedbnihoaa.Cox
namespace Go.Proofs.Ytlchafedbnihoaa
open Go.RowKit
set_option maxRecDepth 20000
def zAF:List Int→Option Nat
 | []=>none
 | x::xs=>if x<0 then some 0 else (zAF xs).map (· + 1)
theorem zBn:∀{v:List Int},zAF v=none↔∀x∈v,0≤x
 | []=>by simp [zAF]
 | x::xs=>by
  unfold zAF;by_cases h:x<0
  ·simp [h]; intro h2; omega
  ·simp [h,zBn (v:=xs)]; omega
theorem zBJ:∀{v:List Int} {i:Nat},zAF v=some i→∃x,v[i]? = some x∧x<0∧∀j,j<i→∀y,v[j]? = some y→0≤y
 | [],_,h=>by simp [zAF] at h
 | x::xs,i,h=>by
  unfold zAF at h;by_cases hx:x<0
  ·simp [hx] at h; subst h; exact ⟨x,rfl,hx,fun j hj=>by omega⟩
  ·simp [hx] at h;obtain ⟨k,hk,rfl⟩:=h;obtain ⟨y,h1,h2,h3⟩:=zBJ hk;refine ⟨y,by simpa using h1,h2,fun j hj z hz=>?_⟩;cases j with
   | zero=>simp at hz; omega
   | succ j=>exact h3 j (by omega) z (by simpa using hz)
theorem zBU {v:List Int} {i:Nat} (h:zAF v=some i):i<v.length:=by
 obtain ⟨x,h1,_⟩:=zBJ h;exact (zJk h1).1
def nf (c:List (List Int)):Nat→List Int→List Int
 | 0,_=>[]
 |f+1,v=>match zAF v with
  | none=>[]
  | some i=>(i:Int)::nf c f (refl c i v)
def toN (w:List Int):List Nat:=w.map Int.toNat
def zAK (c:List (List Int)) (w:List Int):List Int:=act c w (List.replicate c.length 1)
def zAB (c:List (List Int)) (w:List Int):List Int:=nf c 30 (zAK c w)
theorem CartanP.car {c:List (List Int)} (h:CartanP c):Cox.Car c.length (ent c):=by
 refine ⟨fun i hi=>?_,fun i j hi hj hn=>?_,fun i j hi hj h0=>?_⟩
 ·have:=h.ok i i hi hi;simpa [okE] using this
 ·have:=h.ok i j hi hj;simp [okE,hn] at this;exact this.1
 ·by_cases hn:i=j
  ·subst hn; exact h0
  ·have:=h.ok i j hi hj;simp [okE,hn] at this;have:=this.2;rw [h0] at this;simpa using this
structure Im (c:List (List Int)) (v:List Int) (m:Nat):Prop where
 len:v.length=c.length
 word:∃w:List Nat,Cox.Lets c.length w∧w.length=m∧∀k,k<c.length→num v k=Cox.aW (ent c) w Cox.one k
theorem zHZ (m:Nat):(1:Int)≤4 ^ m:=by
 have:=Nat.one_le_two_pow (n:=0)
 induction m with
 | zero=>simp
 | succ m ih=>rw [Int.pow_succ]; omega
theorem zCZ {n:Nat} {c:Nat→Nat→Int} (h:Cox.Car n c):∀{w:List Nat},Cox.Lets n w→∀k,k<n→-(4 ^ w.length)≤Cox.aW c w Cox.one k∧Cox.aW c w Cox.one k≤4 ^ w.length
 | [],_,k,_=>by simp [Cox.aW,Cox.one]
 | i::w,hw,k,hk=>by
  have hi:i<n:=hw i (by simp);have hw':Cox.Lets n w:=fun j hj=>hw j (by simp [hj]);have b1:=zCZ h hw' k hk;have b2:=zCZ h hw' i hi;simp only [Cox.aW,Cox.sW,List.length_cons,Int.pow_succ];generalize Cox.aW c w Cox.one i=x at *;generalize Cox.aW c w Cox.one k=y at *;have hpos:=zHZ w.length;generalize (4:Int) ^ w.length=B at *;by_cases hik:k=i
  ·subst hik;rw [h.diag k hk];have:x=y∨True:=.inr trivial;omega
  ·have ho:=h.off k i hk hi hik;have hc:c k i=0∨c k i = -1∨c k i = -2∨c k i = -3:=by omega
   rcases hc with e | e | e | e <;> rw [e] <;> omega
theorem zDI {x:Int} (h1:-9223372036854775808≤x) (h2:x≤9223372036854775807):wrap64 x=x:=by
 unfold wrap64;omega
theorem zE6 {c:List (List Int)} {i:Nat} {v:List Int} {k:Nat} (hk:k<v.length):num (refl c i v) k=wrap64 (num v k-wrap64 (num v i*ent c k i)):=by
 have key:∀(x:Int) (l:List Int) (o k:Nat),k<l.length→num (zAQ c i x l o) k=wrap64 (num l k-wrap64 (x*ent c (o+k) i)):=by
  intro x l
  induction l with
  | nil=>intro o k hk; simp at hk
  | cons y ys ih =>
   intro o k hk;cases k with
   | zero=>simp [zAQ,num]
   | succ k =>
    have:=ih (o+1) k (by simpa using hk);simp only [num,zAQ,List.getElem?_cons_succ] at this ⊢;rw [this,show o+1+k=o+(k+1) by omega]
 have:=key (num v i) v 0 k hk;rw [Nat.zero_add] at this;exact this
theorem zG2 {m:Nat} (h:m≤30):(4:Int) ^ m≤1152921504606846976:=by
 have h1:(4:Nat) ^ m≤4 ^ 30:=Nat.pow_le_pow_right (by omega) h;have h2:((4 ^ m:Nat):Int)≤((4 ^ 30:Nat):Int):=by exact_mod_cast h1
 have h3:((4 ^ m:Nat):Int)=(4:Int) ^ m:=by simp
 rw [h3] at h2;simpa using h2
theorem zAy {c:List (List Int)} (hc:CartanP c) {v:List Int} (hv:v.length=c.length) {w:List Nat} (hw:Cox.Lets c.length w) (hm:w.length≤30) (h:∀k,k<c.length→num v k=Cox.aW (ent c) w Cox.one k) {i:Nat} (hi:i<c.length) {k:Nat} (hk:k<c.length) :
  num (refl c i v) k=Cox.sW (ent c) i (Cox.aW (ent c) w Cox.one) k:=by
 rw [zE6 (by omega),h k hk,h i hi];have b1:=zCZ hc.car hw k hk;have b2:=zCZ hc.car hw i hi;have b3:=zG2 hm;unfold Cox.sW;generalize Cox.aW (ent c) w Cox.one i=x at *;generalize Cox.aW (ent c) w Cox.one k=y at *;generalize (4:Int) ^ w.length=B at *;have he:ent c k i=2∨ent c k i=0∨ent c k i = -1∨ent c k i = -2∨ent c k i = -3:=by
  by_cases hik:k=i
  ·subst hik; exact .inl (hc.car.diag k hk)
  ·have ho:=hc.car.off k i hk hi hik; omega
 rcases he with e | e | e | e | e <;> rw [e] <;> rw [zDI (x:=x*_) (by omega) (by omega),zDI (by omega) (by omega)]
theorem Im.step {c:List (List Int)} (hc:CartanP c) {v:List Int} {m:Nat} (h:Im c v m) (hm:m≤30) {i:Nat} (hi:i<c.length):Im c (refl c i v) (m+1):=by
 obtain ⟨hl,w,hw,hwl,hn⟩:=h;refine ⟨by rw [zAa,hl],i::w,fun j hj=>?_,by simp [hwl],fun k hk=>zAy hc hl hw (by omega) hn hi hk⟩;rcases List.mem_cons.1 hj with rfl | hj
 ·exact hi
 ·exact hw j hj
theorem zD9 {v:List Int} {x:Int} (h:x∈v):∃k,k<v.length∧num v k=x:=by
 obtain ⟨k,hk,rfl⟩:=List.getElem_of_mem h;exact ⟨k,hk,by simp [num,hk]⟩
theorem Im.ne {c:List (List Int)} (hc:CartanP c) {v:List Int} {m:Nat} (h:Im c v m) {x:Int} (hx:x∈v):x≠0:=by
 obtain ⟨hl,w,hw,hwl,hn⟩:=h;obtain ⟨k,hk,rfl⟩:=zD9 hx;rw [hn k (by omega)];exact (Cox.image_step hc.car hw (by omega)).1
theorem Im.back {c:List (List Int)} (hc:CartanP c) {v:List Int} {m:Nat} (h:Im c v m) (hm:m≤30) {i:Nat} {x:Int} (hx:v[i]? = some x) (hx0:x<0):∃m',m=m'+1∧Im c (refl c i v) m':=by
 obtain ⟨hl,w,hw,hwl,hn⟩:=h;have hi:i<c.length:=by have:=(zJk hx).1; omega
 obtain ⟨w',a1,a2,a3⟩:=(Cox.image_step hc.car hw hi).2 (by rw [<-hn i hi,zDz hx]; exact hx0);exact ⟨w'.length,by omega,by rw [zAa,hl],w',a1,rfl,fun k hk=>by rw [zAy hc hl hw (by omega) hn hi hk,a3]⟩
theorem Im.zero {c:List (List Int)} {v:List Int} (h:Im c v 0):zAF v=none:=by
 obtain ⟨hl,w,hw,hwl,hn⟩:=h;have:w=[]:=List.eq_nil_of_length_eq_zero hwl;subst this;refine zBn.2 fun x hx=>?_;obtain ⟨k,hk,rfl⟩:=zD9 hx;rw [hn k (by omega)];simp [Cox.aW,Cox.one]
theorem zDE {c:List (List Int)} (hc:CartanP c):∀(m:Nat) {v:List Int} {f:Nat},Im c v m→m≤30→m≤f→nf c f v=nf c m v
 | 0,v,f,h,_,_=>by
  cases f with
  | zero=>rfl
  | succ f=>simp [nf,h.zero]
 | m+1,v,f,h,hm,hf=>by
  obtain ⟨f,rfl⟩:∃k,f=k+1:=⟨f-1,by omega⟩;simp only [nf];cases e:zAF v with
  | none=>rfl
  | some i =>
   obtain ⟨x,h1,h2,_⟩:=zBJ e;obtain ⟨m',hm',h3⟩:=h.back hc hm h1 h2;have:m'=m:=by omega
   subst this;simp only;rw [zDE hc m' h3 (by omega) (by omega)]
theorem zHv {c:List (List Int)} (hc:CartanP c):∀(m:Nat) {v:List Int},(nf c m v).length≤m
 | 0,v=>by simp [nf]
 | m+1,v=>by
  simp only [nf];cases e:zAF v with
  | none=>simp
  | some i=>simp; exact zHv hc m
theorem zCV {c:List (List Int)} (hc:CartanP c) {m:Nat} {v:List Int} {i:Nat} (h:Im c v m) (hm:m≤30) (e:zAF v=some i):∃m',m=m'+1∧Im c (refl c i v) m'∧nf c 30 v=(i:Int)::nf c 30 (refl c i v):=by
 obtain ⟨x,h1,h2,_⟩:=zBJ e;obtain ⟨m',rfl,h3⟩:=h.back hc hm h1 h2;refine ⟨m',rfl,h3,?_⟩;rw [zDE hc (m'+1) h hm hm,zDE hc m' h3 (by omega) (by omega)];simp [nf,e]
theorem zC5 {c:List (List Int)} {v:List Int} (e:zAF v=none):nf c 30 v=[]:=by simp [nf,e]
theorem zAb {c:List (List Int)} (hc:CartanP c):∀{w:List Int},Lets c.length w→w.length≤30→Im c (zAK c w) w.length
 | [],_,_=>⟨by simp [zAK,act],[],fun i hi=>by simp at hi,rfl,fun k hk=>by simp [zAK,act,num,Cox.aW,Cox.one,hk]⟩
 | i::w,hw,hl=>by
  have h1:=zAb hc (w:=w) (fun x hx=>hw x (by simp [hx])) (by simp at hl; omega);have h2:=hw i (by simp);exact h1.step hc (by simp at hl; omega) (by omega)
theorem zAz {c:List (List Int)} (hc:CartanP c) {w:List Int} (hw:Lets c.length w) (hl:w.length≤30):(zAB c w).length≤w.length:=by
 unfold zAB;rw [zDE hc _ (zAb hc hw hl) hl hl];exact zHv hc _
end Go.Proofs.Ytlchafedbnihoaa
namespace Go.Proofs.Ytlchafedbnihoaa.Fin
set_option maxRecDepth 20000
def en (c:List (List Int)) (i j:Nat):Int:=(c[i]?.getD [])[j]?.getD 0
def cut (j:Nat) (r:List Int):List Int:=r.take j++r.drop (j+1)
def without (m:List (List Int)) (j:Nat):List (List Int):=(m.drop 1).map (cut j)
def sum (f:Nat→Int):Nat→Int
 | 0=>0
 | k+1=>sum f k+f k
def sgn (j:Nat) (x:Int):Int:=if j % 2=1 then -x else x
def det:Nat→List (List Int)→Int
 | 0,_=>1
 | n+1,m=>sum (fun j=>sgn j (en m 0 j*det n (without m j))) (n+1)
def bits:Nat→Nat→List Nat
 | 0,_=>[]
 | n+1,k=>bits n k++if k / 2 ^ n % 2=1 then [n] else []
def sub (c:List (List Int)) (s:List Nat):List (List Int):=s.map fun i=>s.map fun j=>en c i j
def minor (c:List (List Int)) (n k:Nat):Int:=det (bits n k).length (sub c (bits n k))
def zBw (c:List (List Int)) (n:Nat):Nat→Bool
 | 0=>true
 | k+1=>decide (0<minor c n (k+1)) && zBw c n k
def isFin (c:List (List Int)):Bool:=zBw c c.length (2 ^ c.length-1)
theorem posUp_iff {c:List (List Int)} {n:Nat}:∀{k:Nat},zBw c n k=true↔∀m,1≤m→m≤k→0<minor c n m
 | 0=>by simp [zBw]; omega
 | k+1=>by
  simp only [zBw,Bool.and_eq_true,decide_eq_true_eq];rw [posUp_iff (k:=k)];constructor
  ·rintro ⟨h1,h2⟩ m hm hk;rcases Nat.lt_or_ge k m with h | h
   ·obtain rfl:m=k+1:=by omega
    exact h1
   ·exact h2 m hm h
  ·exact fun h=>⟨h _ (by omega) (zJm _),fun m hm hk=>h m hm (by omega)⟩
theorem zEH {f:Nat→Int} {B:Nat} (h:∀j,(f j).natAbs≤B):∀k,(sum f k).natAbs≤k*B
 | 0=>by simp [sum]
 | k+1=>by
  have h1:=zEH h k;have h2:=h k;have h3:=Int.natAbs_add_le (sum f k) (f k);simp only [sum];rw [Nat.succ_mul];omega
def dB (B:Nat):Nat→Nat
 | 0=>1
 | n+1=>(n+1)*(B*dB B n)
def Small (B:Nat) (m:List (List Int)):Prop:=∀r∈m,∀x∈r,x.natAbs≤B
theorem zIE {j:Nat} {r:List Int} {x:Int} (h:x∈cut j r):x∈r:=by
 unfold cut at h;rcases List.mem_append.1 h with h | h
 ·exact List.mem_of_mem_take h
 ·exact List.mem_of_mem_drop h
theorem Small.without {B:Nat} {m:List (List Int)} (h:Small B m) (j:Nat):Small B (without m j):=by
 intro r hr x hx;unfold Fin.without at hr;obtain ⟨r0,h0,rfl⟩:=List.mem_map.1 hr;exact h r0 (List.mem_of_mem_drop h0) x (zIE hx)
theorem Small.en {B:Nat} {m:List (List Int)} (h:Small B m) (i j:Nat):(en m i j).natAbs≤B:=by
 unfold Fin.en;cases hr:m[i]? with
 | none=>simp
 | some r =>
  simp only [Option.getD_some];cases hx:r[j]? with
  | none=>simp
  | some x=>exact h r (zJj hr) x (zJj hx)
theorem zFy (j:Nat) (x:Int):(sgn j x).natAbs=x.natAbs:=by unfold sgn; split <;> simp
theorem zFl {B:Nat}:∀(n:Nat) {m:List (List Int)},Small B m→(det n m).natAbs≤dB B n
 | 0,_,_=>by simp [det,dB]
 | n+1,m,h=>by
  simp only [det,dB];refine zEH (fun j=>?_) (n+1);rw [zFy,Int.natAbs_mul];exact Nat.mul_le_mul (h.en 0 j) (zFl n (h.without j))
theorem zHp {B:Nat} (n:Nat) {m:List (List Int)} (h:Small B m) (j:Nat):(en m 0 j*det n (without m j)).natAbs≤B*dB B n:=by
 rw [Int.natAbs_mul];exact Nat.mul_le_mul (h.en 0 j) (zFl n (h.without j))
theorem zJZ:∀n,n≤3→dB 2000 n≤48000000000
 | 0,_=>by decide
 | 1,_=>by decide
 | 2,_=>by decide
 | 3,_=>by decide
theorem term_bd {n:Nat} (hn:n≤3) {m:List (List Int)} (h:Small 2000 m) (j:Nat):-96000000000000≤en m 0 j*det n (without m j)∧en m 0 j*det n (without m j)≤96000000000000:=by
 have h1:=zHp n h j;have h2:=zJZ n hn;have h3:2000*dB 2000 n≤2000*48000000000:=Nat.mul_le_mul_left _ h2;omega
theorem sum_bd {n:Nat} (hn:n≤3) {m:List (List Int)} (h:Small 2000 m) {k:Nat} (hk:k≤4) :
  -384000000000000≤sum (fun j=>sgn j (en m 0 j*det n (without m j))) k∧sum (fun j=>sgn j (en m 0 j*det n (without m j))) k≤384000000000000:=by
 have h1:(sum (fun j=>sgn j (en m 0 j*det n (without m j))) k).natAbs≤k*96000000000000:=zEH (fun j=>by rw [zFy]; have:=term_bd hn h j; omega) k;have h2:k*96000000000000≤4*96000000000000:=Nat.mul_le_mul_right _ hk;omega
theorem en_at {c:List (List Int)} {i j:Nat} {l:List Int} {x:Int} (h:c[i]? = some l) (h':l[j]? = some x):en c i j=x:=by simp [en,h,h']
theorem cut_step {j k:Nat} {r:List Int} {x:Int} (h:r[k]? = some x):cut j (r.take (k+1))=if k=j then cut j (r.take k) else cut j (r.take k)++[x]:=by
 have hk:k<r.length:=by
  rcases Nat.lt_or_ge k r.length with h' | h'
  ·exact h'
  ·rw [List.getElem?_eq_none h'] at h; cases h
 have hl:(r.take k).length=k:=by simp; omega
 have e:r.take (k+1)=r.take k++[x]:=by rw [List.take_add_one,h]; rfl
 rw [e];generalize r.take k=l at *;unfold cut;subst hl;rcases Nat.lt_trichotomy l.length j with h1 | h1 | h1
 ·rw [if_neg (by omega),List.take_of_length_le (by simp; omega),List.take_of_length_le (by omega),List.drop_of_length_le (by simp; omega),List.drop_of_length_le (by omega)];simp
 ·rw [if_pos h1];subst h1;simp
 ·rw [if_neg (by omega),List.take_append_of_le_length (by omega),List.drop_append_of_le_length (by omega),List.append_assoc]
theorem without_step {m:List (List Int)} {j k:Nat} {r:List Int} (h:m[k+1]? = some r):((m.drop 1).take (k+1)).map (cut j)=((m.drop 1).take k).map (cut j)++[cut j r]:=by
 have e:(m.drop 1)[k]? = some r:=by rw [List.getElem?_drop,Nat.add_comm]; exact h
 rw [List.take_add_one,e];simp
def tab (n:Nat) (f:Nat→Nat→Int):List (List Int):=(List.range n).map fun i=>(List.range n).map fun j=>f i j
theorem zCw {n:Nat} {f:Nat→Nat→Int} {i j:Nat} (hi:i<n) (hj:j<n):en (tab n f) i j=f i j:=by
 simp [en,tab,hi,hj]
structure Sqr (c:List (List Int)) (n:Nat):Prop where
 len:c.length=n
 row:∀r∈c,r.length=n
theorem Sqr.without {m:List (List Int)} {n:Nat} (h:Sqr m (n+1)) {j:Nat} (hj:j≤n):Sqr (without m j) n:=by
 refine ⟨by simp [Fin.without,h.len],fun r hr=>?_⟩;unfold Fin.without at hr;obtain ⟨r0,h0,rfl⟩:=List.mem_map.1 hr;have:=h.row r0 (List.mem_of_mem_drop h0);simp [cut]; omega
theorem zIx (n:Nat) (f:Nat→Nat→Int):Sqr (tab n f) n:=by
 refine ⟨by simp [tab],fun r hr=>?_⟩;obtain ⟨i,_,rfl⟩:=List.mem_map.1 hr;simp
theorem zJU {c:List (List Int)} {n:Nat} (h:Sqr c n):tab n (en c)=c:=by
 refine List.ext_getElem (by simp [tab,h.len]) fun i h1 h2=>?_;simp only [tab,List.getElem_map,List.getElem_range];have hr:(c[i]).length=n:=h.row _ (List.getElem_mem h2);refine List.ext_getElem (by simp [hr]) fun j h3 h4=>?_;simp [en,h2,h4]
theorem bits_lt:∀{n k x:Nat},x∈bits n k→x<n
 | 0,_,_,h=>by simp [bits] at h
 | n+1,k,x,h=>by
  simp only [bits] at h;rcases List.mem_append.1 h with h | h
  ·have:=bits_lt h; omega
  ·split at h
   ·simp at h; omega
   ·simp at h
theorem zH0 {n k:Nat} (h:k<2 ^ n):bits (n+1) k=bits n k:=by
 simp [bits,Nat.div_eq_of_lt h]
theorem zHI {c c':List (List Int)} {s:List Nat} (h:∀i∈s,∀j∈s,en c i j=en c' i j):sub c s=sub c' s:=by
 unfold sub;exact List.map_congr_left fun i hi=>List.map_congr_left fun j hj=>h i hi j hj
theorem zHh {c:List (List Int)} {n k:Nat} (h:k<2 ^ n):minor c (n+1) k=minor (tab n (en c)) n k:=by
 unfold minor;rw [zH0 h];congr 1;exact zHI fun i hi j hj=>(zCw (bits_lt hi) (bits_lt hj)).symm
def opts:List (Int × Int):=[(0,0),(-1,-1),(-1,-2),(-2,-1),(-1,-3),(-3,-1)]
def zBy:Nat→List (List (Int × Int))
 | 0=>[[]]
 | n+1=>opts.flatMap fun o=>(zBy n).map (o :: ·)
theorem zDN:∀{n:Nat} {l:List (Int × Int)},l.length=n→(∀o∈l,o∈opts)→l∈zBy n
 | 0,[],_,_=>by simp [zBy]
 | n+1,o::l,hl,h=>by
  simp only [zBy,List.mem_flatMap,List.mem_map];exact ⟨o,h o (by simp),l,zDN (by simpa using hl) (fun x hx=>h x (by simp [hx])),rfl⟩
def extL (m:List (List Int)) (ps:List (Int × Int)):List (List Int):=List.zipWith (fun r p=>r++[p.1]) m ps++[ps.map (·.2)++[2]]
def fast (a01 a02 a03 a10 a12 a13 a20 a21 a23 a30 a31 a32:Nat):Bool :=
 decide (2*(a01*a10+a03*a30+a13*a31)+(a01*a13*a30+a03*a31*a10)<8) &&
 (decide (2*(a02*a20+a03*a30+a23*a32)+(a02*a23*a30+a03*a32*a20)<8) &&
 (decide (2*(a12*a21+a13*a31+a23*a32)+(a12*a23*a31+a13*a32*a21)<8) &&
 decide (4*(a01*a10+a02*a20+a03*a30+a12*a21+a13*a31+a23*a32) +
  2*(a01*a13*a30+a03*a31*a10+(a02*a23*a30+a03*a32*a20)+(a12*a23*a31+a13*a32*a21)+(a01*a12*a20+a02*a21*a10)) +
  (a01*a12*a23*a30+a01*a13*a32*a20+a02*a21*a13*a30+a02*a23*a31*a10+a03*a31*a12*a20+a03*a32*a21*a10)
  < 16+(a01*a10*(a23*a32)+a02*a20*(a13*a31)+a03*a30*(a12*a21)))))
def zGF:List (List Int)→Bool
 | [[_,a01,a02,a03],[a10,_,a12,a13],[a20,a21,_,a23],[a30,a31,a32,_]] =>
  fast (-a01).toNat (-a02).toNat (-a03).toNat (-a10).toNat (-a12).toNat (-a13).toNat (-a20).toNat (-a21).toNat (-a23).toNat (-a30).toNat (-a31).toNat (-a32).toNat
 | _=>false
def okM:Nat→List (List Int)→Bool
 | 4,c=>zGF c
 | n,c=>zBw c n (2 ^ n-1)
def mats:Nat→List (List (List Int))
 | 0=>[[]]
 | n+1=>(mats n).flatMap fun m=>((zBy n).map (extL m)).filter (okM (n+1))
structure Ent (n:Nat) (f:Nat→Nat→Int):Prop where
 diag:∀i,i<n→f i i=2
 off:∀i j,i<n→j<n→i≠j→-3≤f i j∧f i j≤0
 zero:∀i j,i<n→j<n→(f i j=0↔f j i=0)
theorem zGr {c:List (List Int)} {n i:Nat} (hn:n≤3) (hi:i<n) (h1:en c i i=2) (h2:en c n n=2):minor c (n+1) (2 ^ i+2 ^ n)=4-en c i n*en c n i:=by
 have hb:bits (n+1) (2 ^ i+2 ^ n)=[i,n]:=by
  match n,i,hn,hi with
  | 1,0,_,_=>rfl
  | 2,0,_,_=>rfl
  | 2,1,_,_=>rfl
  | 3,0,_,_=>rfl
  | 3,1,_,_=>rfl
  | 3,2,_,_=>rfl
 unfold minor;rw [hb];simp [sub,det,sum,sgn,without,cut,en];simp [en] at h1 h2;rw [h1,h2];omega
theorem zGy {x y:Int} (hx:-3≤x∧x≤0) (hy:-3≤y∧y≤0) (h0:x=0↔y=0) (h:0<4-x*y):(x,y)∈opts:=by
 have h1:x=0∨x = -1∨x = -2∨x = -3:=by omega
 have h2:y=0∨y = -1∨y = -2∨y = -3:=by omega
 rcases h1 with rfl | rfl | rfl | rfl <;> rcases h2 with rfl | rfl | rfl | rfl <;> simp [opts] at * <;> omega
theorem zDu {α:Type} {l:List α} (h:l.length=4):∃a b c d,l=[a,b,c,d]:=by match l,h with | [a,b,c,d],_=>exact ⟨a,b,c,d,rfl⟩
theorem zAt {x:Int} (h:-3≤x∧x≤0):∃a:Nat,x = -(a:Int):=⟨(-x).toNat,by omega⟩
theorem zHd (a01 a02 a03 a10 a12 a13 a20 a21 a23 a30 a31 a32:Int) :
  minor [[2,-a01,-a02,-a03],[-a10,2,-a12,-a13],[-a20,-a21,2,-a23],[-a30,-a31,-a32,2]] 4 11=8-(2*(a01*a10+a03*a30+a13*a31)+(a01*a13*a30+a03*a31*a10)):=by
 have hb:bits 4 11=[0,1,3]:=rfl;unfold minor;rw [hb];simp only [sub,List.map_cons,List.map_nil,List.length_cons,List.length_nil];simp [det,sum,sgn,without,cut,en]
 grind
theorem zHe (a01 a02 a03 a10 a12 a13 a20 a21 a23 a30 a31 a32:Int) :
  minor [[2,-a01,-a02,-a03],[-a10,2,-a12,-a13],[-a20,-a21,2,-a23],[-a30,-a31,-a32,2]] 4 13=8-(2*(a02*a20+a03*a30+a23*a32)+(a02*a23*a30+a03*a32*a20)):=by
 have hb:bits 4 13=[0,2,3]:=rfl;unfold minor;rw [hb];simp only [sub,List.map_cons,List.map_nil,List.length_cons,List.length_nil];simp [det,sum,sgn,without,cut,en]
 grind
theorem zHf (a01 a02 a03 a10 a12 a13 a20 a21 a23 a30 a31 a32:Int) :
  minor [[2,-a01,-a02,-a03],[-a10,2,-a12,-a13],[-a20,-a21,2,-a23],[-a30,-a31,-a32,2]] 4 14=8-(2*(a12*a21+a13*a31+a23*a32)+(a12*a23*a31+a13*a32*a21)):=by
 have hb:bits 4 14=[1,2,3]:=rfl;unfold minor;rw [hb];simp only [sub,List.map_cons,List.map_nil,List.length_cons,List.length_nil];simp [det,sum,sgn,without,cut,en]
 grind
theorem zHg (a01 a02 a03 a10 a12 a13 a20 a21 a23 a30 a31 a32:Int) :
  minor [[2,-a01,-a02,-a03],[-a10,2,-a12,-a13],[-a20,-a21,2,-a23],[-a30,-a31,-a32,2]] 4 15=16+(a01*a10*(a23*a32)+a02*a20*(a13*a31)+a03*a30*(a12*a21))-(4*(a01*a10+a02*a20+a03*a30+a12*a21+a13*a31+a23*a32) +
  2*(a01*a13*a30+a03*a31*a10+(a02*a23*a30+a03*a32*a20)+(a12*a23*a31+a13*a32*a21)+(a01*a12*a20+a02*a21*a10)) +
  (a01*a12*a23*a30+a01*a13*a32*a20+a02*a21*a13*a30+a02*a23*a31*a10+a03*a31*a12*a20+a03*a32*a21*a10)):=by
 have hb:bits 4 15=[0,1,2,3]:=rfl;unfold minor;rw [hb];simp only [sub,List.map_cons,List.map_nil,List.length_cons,List.length_nil];simp [det,sum,sgn,without,cut,en]
 grind
theorem zIK {c:List (List Int)} (hs:Sqr c 4) (he:Ent 4 (en c)) (hp:zBw c 4 15=true):zGF c=true:=by
 obtain ⟨r0,r1,r2,r3,rfl⟩:=zDu hs.len;obtain ⟨x00,x01,x02,x03,rfl⟩:=zDu (hs.row r0 (by simp));obtain ⟨x10,x11,x12,x13,rfl⟩:=zDu (hs.row r1 (by simp));obtain ⟨x20,x21,x22,x23,rfl⟩:=zDu (hs.row r2 (by simp));obtain ⟨x30,x31,x32,x33,rfl⟩:=zDu (hs.row r3 (by simp));have d0:x00=2:=he.diag 0 (by omega);have d1:x11=2:=he.diag 1 (by omega);have d2:x22=2:=he.diag 2 (by omega);have d3:x33=2:=he.diag 3 (by omega);subst d0; subst d1; subst d2; subst d3;obtain ⟨a01,rfl⟩:=zAt (x:=x01) (he.off 0 1 (by omega) (by omega) (by omega));obtain ⟨a02,rfl⟩:=zAt (x:=x02) (he.off 0 2 (by omega) (by omega) (by omega));obtain ⟨a03,rfl⟩:=zAt (x:=x03) (he.off 0 3 (by omega) (by omega) (by omega));obtain ⟨a10,rfl⟩:=zAt (x:=x10) (he.off 1 0 (by omega) (by omega) (by omega))
 obtain ⟨a12,rfl⟩:=zAt (x:=x12) (he.off 1 2 (by omega) (by omega) (by omega));obtain ⟨a13,rfl⟩:=zAt (x:=x13) (he.off 1 3 (by omega) (by omega) (by omega));obtain ⟨a20,rfl⟩:=zAt (x:=x20) (he.off 2 0 (by omega) (by omega) (by omega));obtain ⟨a21,rfl⟩:=zAt (x:=x21) (he.off 2 1 (by omega) (by omega) (by omega));obtain ⟨a23,rfl⟩:=zAt (x:=x23) (he.off 2 3 (by omega) (by omega) (by omega));obtain ⟨a30,rfl⟩:=zAt (x:=x30) (he.off 3 0 (by omega) (by omega) (by omega));obtain ⟨a31,rfl⟩:=zAt (x:=x31) (he.off 3 1 (by omega) (by omega) (by omega));obtain ⟨a32,rfl⟩:=zAt (x:=x32) (he.off 3 2 (by omega) (by omega) (by omega));rw [posUp_iff] at hp;have h1:=hp 11 (by omega) (by omega);have h2:=hp 13 (by omega) (by omega);have h3:=hp 14 (by omega) (by omega);have h4:=hp 15 (by omega) (by omega);rw [zHd] at h1;rw [zHe] at h2;rw [zHf] at h3;rw [zHg] at h4
 unfold zGF fast;simp only [Int.neg_neg,Int.toNat_natCast,Bool.and_eq_true,decide_eq_true_eq];refine ⟨?_,?_,?_,?_⟩
 ·have h:(2*((a01:Int)*a10+a03*a30+a13*a31)+(a01*a13*a30+a03*a31*a10))<8:=by omega
  exact_mod_cast h
 ·have h:(2*((a02:Int)*a20+a03*a30+a23*a32)+(a02*a23*a30+a03*a32*a20))<8:=by omega
  exact_mod_cast h
 ·have h:(2*((a12:Int)*a21+a13*a31+a23*a32)+(a12*a23*a31+a13*a32*a21))<8:=by omega
  exact_mod_cast h
 ·have h:=Int.lt_of_sub_pos h4
  exact_mod_cast h
theorem zEg:∀{n:Nat} {c:List (List Int)},n≤4→Sqr c n→Ent n (en c)→zBw c n (2 ^ n-1)=true→c∈mats n
 | 0,c,_,hs,_,_=>by
  have:=List.eq_nil_of_length_eq_zero hs.len;subst this; simp [mats]
 | n+1,c,hn,hs,he,hp=>by
  rw [posUp_iff] at hp;have hm:tab n (en c)∈mats n:=by
   refine zEg (by omega) (zIx _ _) ⟨fun i hi=>?_,fun i j hi hj=>?_,fun i j hi hj=>?_⟩ ?_
   ·rw [zCw hi hi]; exact he.diag i (by omega)
   ·rw [zCw hi hj]; exact he.off i j (by omega) (by omega)
   ·rw [zCw hi hj,zCw hj hi]; exact he.zero i j (by omega) (by omega)
   ·rw [posUp_iff];intro k hk hk2;have hpow:2 ^ n≥1:=Nat.one_le_two_pow;rw [<-zHh (by omega)];exact hp k hk (by rw [Nat.pow_succ]; omega)
  let ps:List (Int × Int):=(List.range n).map fun i=>(en c i n,en c n i)
  have hps:ps∈zBy n:=by
   refine zDN (by simp [ps]) fun o ho=>?_;obtain ⟨i,hi,rfl⟩:=List.mem_map.1 ho;have hi:=List.mem_range.1 hi;refine zGy (he.off i n (by omega) (by omega) (by omega)) (he.off n i (by omega) (by omega) (by omega)) (he.zero i n (by omega) (by omega)) ?_;rw [<-zGr (by omega) hi (he.diag i (by omega)) (he.diag n (by omega))];have h1:2 ^ i≤2 ^ (n-1):=Nat.pow_le_pow_right (by omega) (by omega);have h2:2 ^ n=2*2 ^ (n-1):=by rw [<-Nat.pow_succ']; congr 1; omega
   have h3:1≤2 ^ (n-1):=Nat.one_le_two_pow;have h4:1≤2 ^ i:=Nat.one_le_two_pow;generalize 2 ^ i=p at *;refine hp _ (by omega) (by rw [Nat.pow_succ]; omega)
  have hc:extL (tab n (en c)) ps=c:=by
   have hd:=he.diag n (by omega);refine Eq.trans ?_ (zJU hs);simp only [extL,tab,ps,List.range_succ,List.map_append,List.map_map,List.map_cons,List.map_nil,Function.comp_def];rw [List.zipWith_map,List.zipWith_self,hd]
  simp only [mats,List.mem_flatMap,List.mem_filter,List.mem_map];refine ⟨_,hm,⟨ps,hps,hc⟩,?_⟩;by_cases h3:n=3
  ·subst h3;exact zIK hs he (posUp_iff.2 hp)
  ·unfold okM;split
   ·omega
   ·exact posUp_iff.2 hp
end Go.Proofs.Ytlchafedbnihoaa.Fin
namespace Go.Proofs.Ytlchafedbnihoaa.Fin
set_option maxRecDepth 200000
def dec (n k:Nat):List (List Int):=tab n fun i j=>if i=j then 2 else -((k / 4 ^ (i*n+j) % 4:Nat):Int)
def K1:List Nat:=[0]
def L1:List (List (List Int)):=K1.map (dec 1)
def K2:List Nat:=[0,20,36,24,52,28]
def L2:List (List (List Int)):=K2.map (dec 2)
def K3:List Nat:=[0,17408,33792,18432,50176,19456,4112,21520,37904,22544,8208,25616,
 4128,21536,12304,4144,68,17476,33860,18500,4180,8276,4196,132,
 17540,4244,72,17480,4184,196,76]
def L3:List (List (List Int)):=K3.map (dec 3)
def K4:List Nat:=[0,272629760,541065216,276824064,809500672,281018368,67125248,339755008,608190464,343949312,134234112,406863872,
 67141632,339771392,201342976,67158016,16777280,289407040,557842496,293601344,83902528,356532288,151011392,83918912,
 33554496,306184256,100679744,16777344,289407104,83902592,50331712,16777408,266240,272896000,541331456,277090304,
 67391488,134500352,67407872,17043520,289673280,558108736,293867584,84168768,151277632,84185152,33820736,306450496,
 100945984,17043584,289673344,84168832,50597952,17043648,528384,273158144,67653632,17305664,289935424,84430912,
 34082880,17305728,50860096,17305792,270336,272900096,67395584,17047616,289677376,84172864,33824832,17047680,
 50602048,17047744,790528,17567808,34345024,17567872,51122240,17567936,274432,17051712,33828928,17051776,
 50606144,17051840,65552,272695312,541130768,276889616,67190800,339820560,608256016,344014864,134299664,406929424,
 67207184,339836944,201408528,67223568,16842832,83968080,151076944,83984464,33620048,100745296,16842896,83968144,
 331792,272961552,67457040,134565904,67473424,17109072,33886288,17109136,593936,67719184,17371216,335888,
 67461136,17113168,131088,272760848,67256336,339886096,134365200,67272720,201474064,67289104,16908368,84033616,
 397328,67522576,17174608,65568,272695328,67190816,339820576,134299680,67207200,201408544,67223584,16842848,
 83968096,331808,67457056,17109088,196624,67321872,134430736,67338256,201539600,67354640,65584,67190832,
 134299696,67207216,201408560,67223600,260,272630020,541065476,276824324,809500932,281018628,67125508,339755268,
 608190724,343949572,134234372,406864132,67141892,339771652,16777540,289407300,557842756,293601604,33554756,306184516,
 16777604,289407364,266500,272896260,541331716,277090564,67391748,17043780,33820996,17043844,528644,273158404,
 17305924,270596,272900356,17047876,65812,272695572,541131028,276889876,67191060,134299924,67207444,16843092,
 131348,272761108,67256596,65828,272695588,67191076,516,272630276,541065732,276824580,809501188,281018884,
 67125764,339755524,16777796,289407556,266756,272896516,17044036,66068,272695828,67191316,264,272630024,
 541065480,276824328,809500936,281018632,67125512,339755272,16777544,289407304,266504,272896264,17043784,65816,
 272695576,67191064,772,272630532,541065988,276824836,809501444,281019140,268,272630028,541065484,276824332,
 809500940,281018636]
def L4:List (List (List Int)):=K4.map (dec 4)
theorem zHs:mats 1=L1:=by decide +kernel
theorem zHt:mats 2=L2:=by
 show (mats 1).flatMap _=_;rw [zHs];decide +kernel
theorem zHu:mats 3=L3:=by
 show (mats 2).flatMap _=_;rw [zHt];decide +kernel
theorem zJe:mats 4=L4:=by
 show (mats 3).flatMap _=_;rw [zHu];decide +kernel
theorem mem_lists {n:Nat} {c:List (List Int)} (h1:1≤n) (hn:n≤4) (hs:Sqr c n) (he:Ent n (en c)) (hp:zBw c n (2 ^ n-1)=true):c∈L1++L2++L3++L4:=by
 have h:=zEg hn hs he hp
 match n,h1,hn,h with
 | 1,_,_,h=>rw [zHs] at h; simp [h]
 | 2,_,_,h=>rw [zHt] at h; simp [h]
 | 3,_,_,h=>rw [zHu] at h; simp [h]
 | 4,_,_,h=>rw [zJe] at h; simp [h]
end Go.Proofs.Ytlchafedbnihoaa.Fin
namespace Go.Proofs.Ytlchafedbnihoaa
open Go.RowKit
set_option maxRecDepth 20000
set_option linter.unusedVariables false
def cRef (n:Nat) (c:List (List Int)) (i:Nat) (b:List Int):List Int:=(List.range n).map fun j=>Cox.sR n (Cox.tr (ent c)) i (num b) j
def zBI (n i:Nat):List Int:=(List.range n).map fun j=>Cox.e i j
structure FinP (c:List (List Int)):Prop where
 cart:CartanP c
 pos:Fin.isFin c=true
theorem FinP.listed {c:List (List Int)} (h:FinP c):c∈Fin.L1++Fin.L2++Fin.L3++Fin.L4:=by
 have hk:=h.cart.car;exact Fin.mem_lists h.cart.pos h.cart.le ⟨rfl,h.cart.row⟩ ⟨hk.diag,hk.off,fun i j hi hj=>⟨hk.zero i j hi hj,hk.zero j i hj hi⟩⟩ h.pos
theorem FinP.all {c:List (List Int)} (h:FinP c) {P:List (List Int)→Bool} (hP:(Fin.L1++Fin.L2++Fin.L3++Fin.L4).all P=true):P c=true:=List.all_eq_true.1 hP c h.listed
structure Cor (c:List (List Int)) (T:List (List Int)):Prop where
 len:T.length≤24
 nonneg:∀b∈T,∀x∈b,0≤x
 small:∀b∈T,Cox.dotN (num b) Cox.one c.length≤12
 unit:∀i,i<c.length→zBI c.length i∈T
 perm:∀i,i<c.length→((T.erase (zBI c.length i)).map (cRef c.length c i)).Perm (T.erase (zBI c.length i))
theorem zCE {n:Nat} {f:Nat→Int} {k:Nat} (hk:k<n):num ((List.range n).map f) k=f k:=by simp [num,hk]
theorem zCL {f f' g:Nat→Int} {n:Nat} (h:∀k,k<n→f k=f' k):Cox.dotN f g n=Cox.dotN f' g n:=by
 rw [Cox.dotN_comm,Cox.dotN_congr (f:=g) h,Cox.dotN_comm]
def prL (n:Nat) (b v:List Int):Int:=Cox.dotN (num b) (num v) n
theorem zFv {n i:Nat} (hi:i<n) (v:List Int):prL n (zBI n i) v=num v i:=by
 unfold prL zBI;rw [zCL (f':=Cox.e i) (fun k hk=>zCE hk),Cox.dotN_comm,Cox.dotN_e _ _ _ hi]
structure Wt (c T:List (List Int)) (v:List Int):Prop where
 len:v.length=c.length
 bd:∀b∈T,-12012≤prL c.length b v∧prL c.length b v≤12012
section
variable {c T:List (List Int)} {v:List Int}
theorem Wt.num (h:Wt c T v) (hT:Cor c T) {k:Nat} (hk:k<c.length):-12012≤num v k∧num v k≤12012:=by
 have:=h.bd _ (hT.unit k hk);rwa [zFv hk] at this
theorem Wt.exact {v:List Int} (h:Wt c T v) (hT:Cor c T) (hc:CartanP c) {i k:Nat} (hi:i<c.length) (hk:k<c.length):Proofs.Ytlchafedbnihoaa.num (refl c i v) k=Cox.sW (ent c) i (Proofs.Ytlchafedbnihoaa.num v) k:=by
 rw [zE6 (by rw [h.len]; exact hk)];have h1:=h.num hT hi;have h2:=h.num hT hk;unfold Cox.sW;generalize Proofs.Ytlchafedbnihoaa.num v i=x at *;generalize Proofs.Ytlchafedbnihoaa.num v k=y at *;have he:ent c k i=2∨ent c k i=0∨ent c k i = -1∨ent c k i = -2∨ent c k i = -3:=by
  by_cases hik:k=i
  ·subst hik; exact .inl (hc.car.diag k hk)
  ·have ho:=hc.car.off k i hk hi hik; omega
 rcases he with e | e | e | e | e <;> rw [e] <;> rw [zDI (x:=x*_) (by omega) (by omega),zDI (by omega) (by omega)]
theorem Wt.turn {v:List Int} (h:Wt c T v) (hT:Cor c T) (hc:CartanP c) {i:Nat} (hi:i<c.length) (b:List Int):prL c.length b (refl c i v)=prL c.length (cRef c.length c i b) v:=by
 unfold prL cRef;rw [Cox.dotN_congr (fun k hk=>h.exact hT hc hi hk),<-Cox.wt_adj (c:=ent c) _ _ hi];exact (zCL (fun k hk=>zCE hk)).symm
theorem zFu {v:List Int} (hc:CartanP c) {i:Nat} (hi:i<c.length):prL c.length (cRef c.length c i (zBI c.length i)) v = -(num v i):=by
 have h1:∀k,k<c.length→num (cRef c.length c i (zBI c.length i)) k=Cox.e i k*(-1):=fun k hk=>by
  unfold cRef;rw [zCE hk];unfold Cox.sR;have hu:∀k,k<c.length→num (zBI c.length i) k=Cox.e i k:=fun k hk=>zCE hk;rw [Cox.dotN_congr hu,Cox.dotN_e _ _ _ hi,hu k hk];have:=hc.car.diag i hi;unfold Cox.tr;rw [this];omega
 unfold prL;rw [zCL (f':=fun k=>-1*Cox.e i k) (fun k hk=>by rw [h1 k hk]; omega),Cox.dotN_comm,Cox.dotN_scale,Cox.dotN_e _ _ _ hi];omega
theorem zC7 (hT:Cor c T) {i:Nat} (hi:i<c.length):T.Perm (zBI c.length i::T.erase (zBI c.length i)):=List.perm_cons_erase (hT.unit i hi)
theorem Wt.step {v:List Int} (h:Wt c T v) (hT:Cor c T) (hc:CartanP c) {i:Nat} (hi:i<c.length):Wt c T (refl c i v):=by
 refine ⟨by rw [zAa,h.len],fun b hb=>?_⟩;rw [h.turn hT hc hi];rcases List.mem_cons.1 ((zC7 hT hi).subset hb) with rfl | hb'
 ·rw [zFu hc hi];have:=h.num hT hi;omega
 ·have:cRef c.length c i b∈T.erase (zBI c.length i):=(hT.perm i hi).subset (List.mem_map.2 ⟨b,hb',rfl⟩);exact h.bd _ (List.mem_of_mem_erase this)
def negs (c T:List (List Int)) (v:List Int):Nat:=T.countP fun b=>decide (prL c.length b v<0)
theorem zGs {v:List Int} (h:Wt c T v) (hT:Cor c T) (hc:CartanP c) {i:Nat} (hi:i<c.length) (hn:num v i<0):negs c T v=negs c T (refl c i v)+1:=by
 unfold negs;rw [(zC7 hT hi).countP_eq,(zC7 hT hi).countP_eq,List.countP_cons,List.countP_cons];have h1:(T.erase (zBI c.length i)).countP (fun b=>decide (prL c.length b (refl c i v)<0))=(T.erase (zBI c.length i)).countP (fun b=>decide (prL c.length b v<0)):=by
  rw [<-(hT.perm i hi).countP_eq (fun b=>decide (prL c.length b v<0)),List.countP_map];congr 1;funext b;simp only [Function.comp_apply];rw [h.turn hT hc hi]
 rw [h1,zFv hi,h.turn hT hc hi,zFu hc hi];have h2:¬ -(num v i)<0:=by omega
 simp [hn];omega
theorem zIW (hT:Cor c T) (v:List Int):negs c T v≤24:=Nat.le_trans List.countP_le_length hT.len
def DomS (c T:List (List Int)) (v:List Int) (m:Nat):Prop:=Wt c T v∧negs c T v=m
theorem zGx {v:List Int} {i:Nat} (e:zAF v=some i):num v i<0:=by
 obtain ⟨x,h1,h2,_⟩:=zBJ e;rw [zDz h1]; exact h2
theorem DomS.back {v:List Int} {m:Nat} (h:DomS c T v m) (hT:Cor c T) (hc:CartanP c) {i:Nat} (e:zAF v=some i):∃m',m=m'+1∧DomS c T (refl c i v) m':=by
 have hi:i<c.length:=by have:=zBU e; rw [h.1.len] at this; exact this
 have:=zGs h.1 hT hc hi (zGx e);exact ⟨negs c T (refl c i v),by rw [<-h.2]; exact this,h.1.step hT hc hi,rfl⟩
theorem DomS.fuel (hT:Cor c T) (hc:CartanP c):∀(m:Nat) {v:List Int} {f:Nat},DomS c T v m→m≤f→nf c f v=nf c m v
 | 0,v,f,h,_=>by
  have h0:zAF v=none:=by
   cases e:zAF v with
   | none=>rfl
   | some i=>obtain ⟨m',hm,_⟩:=h.back hT hc e; omega
  cases f with
  | zero=>rfl
  | succ f=>simp [nf,h0]
 | m+1,v,f,h,hf=>by
  obtain ⟨f,rfl⟩:∃k,f=k+1:=⟨f-1,by omega⟩;simp only [nf];cases e:zAF v with
  | none=>rfl
  | some i =>
   obtain ⟨m',hm',h3⟩:=h.back hT hc e;have:m'=m:=by omega
   subst this;simp only;rw [DomS.fuel hT hc m' h3 (by omega)]
theorem DomS.le {v:List Int} {m:Nat} (h:DomS c T v m) (hT:Cor c T):m≤24:=by rw [<-h.2]; exact zIW hT v
end
structure Down (c:List (List Int)) (P:List Int→Nat→Prop):Prop where
 len:∀v m,P v m→v.length=c.length
 le:∀v m,P v m→m≤30
 turn:∀v m i,P v m→zAF v=some i→∃m',m=m'+1∧P (refl c i v) m'∧nf c 30 v=(i:Int)::nf c 30 (refl c i v)
theorem zCR {c:List (List Int)} (hc:CartanP c):Down c (fun v m=>Im c v m∧m≤30) :=
 ⟨fun v m h=>h.1.len,fun v m h=>h.2,fun v m i h e=>by
  obtain ⟨m',rfl,h1,h2⟩:=zCV hc h.1 h.2 e;exact ⟨m',rfl,⟨h1,by have:=h.2; omega⟩,h2⟩⟩
theorem zGt {c:List (List Int)} {P:List Int→Nat→Prop} (hD:Down c P):∀(m:Nat) {v:List Int},P v m→(nf c 30 v).length≤m
 | 0,v,h=>by
  cases e:zAF v with
  | none=>simp [nf,e]
  | some i=>obtain ⟨m',hm,_⟩:=hD.turn v 0 i h e; omega
 | m+1,v,h=>by
  cases e:zAF v with
  | none=>simp [nf,e]
  | some i =>
   obtain ⟨m',hm,h1,h2⟩:=hD.turn v _ i h e;have:m'=m:=by omega
   subst this;rw [h2];have:=zGt hD m' h1;simp; omega
theorem zCU {c:List (List Int)} {P:List Int→Nat→Prop} (hD:Down c P):∀(m:Nat) {v:List Int},P v m→Lets c.length (nf c 30 v)
 | 0,v,h=>by
  cases e:zAF v with
  | none=>simp [nf,e,Lets]
  | some i=>obtain ⟨m',hm,_⟩:=hD.turn v 0 i h e; omega
 | m+1,v,h=>by
  cases e:zAF v with
  | none=>simp [nf,e,Lets]
  | some i =>
   obtain ⟨m',hm,h1,h2⟩:=hD.turn v _ i h e;have:m'=m:=by omega
   subst this;rw [h2];have h3:=zCU hD m' h1;have h4:=zBU e;have h5:=hD.len v _ h;intro x hx;rcases List.mem_cons.1 hx with rfl | hx
   ·omega
   ·exact h3 x hx
end Go.Proofs.Ytlchafedbnihoaa
namespace Go.Proofs.Ytlchafedbnihoaa
open Go.RowKit
set_option maxRecDepth 20000
namespace Cox
variable {n:Nat} {c:Nat→Nat→Int}
theorem zDQ (h:Car n c) {m m':Nat→Int} (hm:∀k,k<n→m k=m' k):∀{w:List Nat},Lets n w→∀k,k<n→aW c w m k=aW c w m' k
 | [],_,k,hk=>hm k hk
 | i::w,hw,k,hk=>by
  have ih:=zDQ h hm (w:=w) (fun j hj=>hw j (by simp [hj]));have hi:i<n:=hw i (by simp);show sW c i (aW c w m) k=sW c i (aW c w m') k;unfold sW;rw [ih k hk,ih i hi]
theorem zFo (h:Car n c):∀(N:Nat) (w:List Nat),w.length≤N→Lets n w→(∀k,k<n→aW c w one k=1)→w.length % 2=0
 | 0,w,hN,_,_=>by
  have:w.length=0:=by omega
  rw [this]
 | N+1,[],_,_,_=>rfl
 | N+1,i::w,hN,hw,h1=>by
  have hi:i<n:=hw i (by simp);have hw':Lets n w:=fun j hj=>hw j (by simp [hj]);have e:aW c w one i-aW c w one i*c i i=1:=h1 i hi;rw [h.diag i hi] at e;obtain ⟨w',a1,a2,a3⟩:=(image_step h hw' hi).2 (by omega);have h2:∀k,k<n→aW c w' one k=1:=fun k hk=>by rw [<-a3]; exact h1 k hk
  have:=zFo h N w' (by simp at hN; omega) a1 h2;simp;omega
theorem zB7 {a b:List Nat} (ha:Lets n a) (hb:Lets n b):Lets n (a++b):=fun j hj=>by
 rcases List.mem_append.1 hj with h | h
 ·exact ha j h
 ·exact hb j h
theorem parity (h:Car n c) {w w':List Nat} (hw:Lets n w) (hw':Lets n w') (he:∀k,k<n→aW c w one k=aW c w' one k):(w.length+w'.length) % 2=0:=by
 have h1:∀k,k<n→aW c (w.reverse++w') one k=1:=fun k hk=>by
  rw [zBC,zDQ h (fun k hk=>(he k hk).symm) (lets_rev hw) k hk,zB2 h one hw];rfl
 have:=zFo h _ _ (zJm _) (zB7 (lets_rev hw) hw') h1;simpa using this
theorem pos_one (h:Car n c):∀(N:Nat) (w:List Nat),w.length≤N→Lets n w→(∀k,k<n→0≤aW c w one k)→∀k,k<n→aW c w one k=1
 | _,[],_,_,_=>fun k _=>rfl
 | 0,i::w,hN,_,_=>by simp at hN
 | N+1,i::w,hN,hw,h1=>by
  have hi:i<n:=hw i (by simp);have hw':Lets n w:=fun j hj=>hw j (by simp [hj]);have e:0≤aW c w one i-aW c w one i*c i i:=h1 i hi;rw [h.diag i hi] at e;have h0:=(image_step h hw' hi).1;obtain ⟨w',a1,a2,a3⟩:=(image_step h hw' hi).2 (by omega);have e2:aW c (i::w) one=aW c w' one:=a3;intro k hk;rw [e2];exact pos_one h N w' (by simp at hN; omega) a1 (fun k hk=>by rw [<-e2]; exact h1 k hk) k hk
end Cox
theorem Im.parity {c:List (List Int)} (hc:CartanP c) {v:List Int} {m m':Nat} (h:Im c v m) (h':Im c v m'):(m+m') % 2=0:=by
 obtain ⟨_,w,hw,rfl,hn⟩:=h;obtain ⟨_,w',hw',rfl,hn'⟩:=h';exact Cox.parity hc.car hw hw' (fun k hk=>by rw [<-hn k hk,<-hn' k hk])
theorem zCW {v v':List Int} {n:Nat} (h:v.length=n) (h':v'.length=n) (he:∀k,k<n→num v k=num v' k):v=v':=by
 refine List.ext_getElem (by omega) fun k h1 h2=>?_;have:=he k (by omega);simpa [num,h1,h2] using this
theorem Im.ones {c:List (List Int)} (hc:CartanP c) {v:List Int} {m:Nat} (h:Im c v m) (e:zAF v=none):v=List.replicate c.length 1:=by
 obtain ⟨hl,w,hw,_,hn⟩:=h;refine zCW hl (by simp) fun k hk=>?_;rw [hn k hk];have:=Cox.pos_one hc.car _ w (zJm _) hw (fun k hk=>by
  rw [<-hn k hk];have hk':k<v.length:=by omega
  have:num v k=v[k]:=by simp [num,hk']
  rw [this];exact zBn.1 e _ (List.getElem_mem _)) k hk
 rw [this];simp [num,hk]
theorem Im.turn_two {c:List (List Int)} (hc:CartanP c) {v:List Int} {m:Nat} (h:Im c v m) (hm:m+1≤30) {i:Nat} (hi:i<c.length):refl c i (refl c i v)=v:=by
 have h2:=h.step hc (by omega) hi;obtain ⟨hl,w,hw,hwl,hn⟩:=h;have hlr:(refl c i v).length=c.length:=by rw [zAa,hl]
 have hw2:Cox.Lets c.length (i::w):=fun j hj=>by
  rcases List.mem_cons.1 hj with rfl | hj
  ·exact hi
  ·exact hw j hj
 have hn2:∀k,k<c.length→num (refl c i v) k=Cox.aW (ent c) (i::w) Cox.one k:=fun k hk=>zAy hc hl hw (by omega) hn hi hk;refine zCW (n:=c.length) (by rw [zAa,zAa,hl]) hl fun k hk=>?_;rw [zAy hc hlr hw2 (by simp; omega) hn2 hi hk,hn k hk];show Cox.sW (ent c) i (Cox.sW (ent c) i (Cox.aW (ent c) w Cox.one)) k=_;rw [Cox.sW_two hc.car hi]
theorem zDd {c:List (List Int)} (hc:CartanP c):∀(m:Nat) {v:List Int},Im c v m→m≤29→zAK c (nf c 30 v)=v
 | m,v,h,hm=>by
  cases e:zAF v with
  | none=>rw [zC5 e,h.ones hc e]; rfl
  | some i =>
   obtain ⟨m',rfl,h1,h2⟩:=zCV hc h (by omega) e;have ih:=zDd hc m' h1 (by omega);have hi:i<c.length:=by have:=zBU e; rw [h.len] at this; exact this
   rw [h2];show refl c (i:Int).toNat (zAK c (nf c 30 (refl c i v)))=v;rw [ih];exact h.turn_two hc (by omega) hi
theorem zCf {c:List (List Int)} (hc:CartanP c) {x:List Int} (hx:Lets c.length x) (hl:x.length≤30):Lets c.length (zAB c x):=zCU (zCR hc) x.length ⟨zAb hc hx hl,hl⟩
def zAT (c:List (List Int)):List Int:=nf c 30 (List.replicate c.length (-1))
def zFf (c:List (List Int)):Bool:=decide (zAK c (zAT c)=List.replicate c.length (-1)) && (decide ((zAT c).length≤24) && (zAT c).all fun x=>decide (0≤x∧x<c.length))
theorem zHa:(Fin.L1++Fin.L2++Fin.L3++Fin.L4).all zFf=true:=by decide +kernel
theorem FinP.long {c:List (List Int)} (h:FinP c):Im c (List.replicate c.length (-1)) (zAT c).length∧(zAT c).length≤24:=by
 have:=h.all zHa;unfold zFf at this;simp only [Bool.and_eq_true,decide_eq_true_eq,List.all_eq_true] at this;obtain ⟨h1,h2,h3⟩:=this;have:=zAb h.cart (w:=zAT c) (fun x hx=>h3 x hx) (by omega);rw [h1] at this;exact ⟨this,h2⟩
end Go.Proofs.Ytlchafedbnihoaa
namespace Go.Proofs.Ytlchafedbnihoaa
open Go.RowKit
set_option maxRecDepth 20000
namespace Cox
variable {n:Nat} {c:Nat→Nat→Int}
theorem zB5 (h:Car n c) {s:Nat} (hs:s<n):∀{w:List Nat},Lets n w→NegA n c w s→∃w',Lets n w'∧w'.length+1=w.length∧w'.Sublist w∧Eqv n c (w++[s]) w'
 | [],_,hn=>by
  have:=hn.1 s hs;simp [aR,e] at this
 | k::y,hw,hn=>by
  have hk:k<n:=hw k (by simp);have hy:Lets n y:=fun j hj=>hw j (by simp [hj]);rcases coh h hy hs with hp | hn'
  ·have hr:=zBH hp.1 hn.1 (fun j hj=>by rw [zBZ hj _ hy,zBu hs hj]);have hx:=zBH (c:=tr c) hp.2 hn.2 (fun j hj=>by rw [zBZ hj _ hy,zBu hs hj]);have hb:=zBf h (e s) (e s) hy;rw [hr,hx,zCs,zCC hk hk,zCC hs hs,h.diag k hk,h.diag s hs] at hb;have p1:=hp.1 k hk;generalize aR n c y (e s) k=a at *;generalize aR n (tr c) y (e s) k=b at *;have hab:b*a=1:=by omega
   have ha:a=1:=Int.eq_one_of_mul_eq_one_left p1 hab;have hb1:b=1:=by rw [ha] at hab; omega
   subst ha; subst hb1;have h1:aR n c y (e s)=e k:=by rw [hr]; funext j; simp
   have h2:aR n (tr c) y (e s)=e k:=by rw [hx]; funext j; simp
   refine ⟨y,hy,by simp,List.sublist_cons_self _ _,?_⟩;have h3:=comm h hy hs hk h1 h2;have h4:Eqv n c (k::(y++[s])) ([k]++(k::y)):=(Eqv.refl [k]).app h3;have h5:Eqv n c ([k,k]++y) ([]++y):=(Eqv.two h hk).app (Eqv.refl y);exact h4.trans h5
  ·obtain ⟨w',h1,h2,h3,h4⟩:=zB5 h hs hy hn';refine ⟨k::w',fun j hj=>?_,by simp; omega,List.Sublist.cons_cons k h3,(Eqv.refl [k]).app h4⟩;rcases List.mem_cons.1 hj with rfl | hj
   ·exact hk
   ·exact h1 j hj
theorem zEM (h:Car n c) {w:List Nat} (hw:Lets n w) {i:Nat} (hi:i<n) (hneg:aW c w one i<0):∃w',Lets n w'∧w'.length+1=w.length∧w'.Sublist w∧sW c i (aW c w one)=aW c w' one:=by
 have hr:=lets_rev hw;have hn:NegA n c w.reverse i:=by
  rcases coh h hr hi with hp | hn
  ·rw [zCh h hw hi] at hneg;have:=(zA9 hp.2).1;omega
  ·exact hn
 obtain ⟨w',a1,a2,a3,a4⟩:=zB5 h hi hr hn;refine ⟨w'.reverse,lets_rev a1,by simp at a2 ⊢; omega,by have:=List.reverse_sublist.2 a3; simpa using this,?_⟩;show aW c (i::w) one=aW c w'.reverse one;have e1:(i::w)=(w.reverse++[i]).reverse:=by simp
 have hl:Lets n (w.reverse++[i]):=fun j hj=>by
  rcases List.mem_append.1 hj with h | h
  ·exact hr j h
  ·simp at h; omega
 rw [e1];have b1:=zFa h one a1;have b2:=zB2 h (aW c w'.reverse one) hl;rw [a4.m,b1] at b2;exact b2
def Part (n:Nat) (c:Nat→Nat→Int) (m:Nat→Int) (w:List Nat):Prop:=∃x,x.Sublist w∧∀k,k<n→aW c x one k=m k
theorem zEP {w x:List Nat} (hw:Lets n w) (hx:x.Sublist w):Lets n x:=fun j hj=>hw j (hx.subset hj)
theorem part_down (h:Car n c) {m:Nat→Int} {s:Nat} {w:List Nat} (hs:s<n) (hw:Lets n w) (hm:m s<0):Part n c m (s::w)↔Part n c (sW c s m) w:=by
 constructor
 ·rintro ⟨x,hx,he⟩;have hxl:=zEP (w:=s::w) (fun j hj=>by rcases List.mem_cons.1 hj with rfl | hj; exact hs; exact hw j hj) hx;rcases List.sublist_cons_iff.1 hx with hx' | ⟨y,rfl,hy⟩
  ·obtain ⟨x',a1,_,a3,a4⟩:=zEM h hxl hs (by rw [he s hs]; exact hm);refine ⟨x',a3.trans hx',fun k hk=>?_⟩;rw [<-a4];unfold sW;rw [he k hk,he s hs]
  ·refine ⟨y,hy,fun k hk=>?_⟩;have e1:∀k,k<n→aW c y one k-aW c y one s*c k s=m k:=he;have e2:=e1 s hs;rw [h.diag s hs] at e2;have e3:=e1 k hk;unfold sW;rw [<-e3,<-e2];have:(aW c y one s-aW c y one s*2)*c k s = -(aW c y one s*c k s):=by rw [show aW c y one s-aW c y one s*2 = -(aW c y one s) by omega,Int.neg_mul]
   rw [this]; omega
 ·rintro ⟨y,hy,he⟩;refine ⟨s::y,List.Sublist.cons_cons s hy,fun k hk=>?_⟩;show aW c y one k-aW c y one s*c k s=m k;rw [he k hk,he s hs];unfold sW;rw [h.diag s hs];have:(m s-m s*2)*c k s = -(m s*c k s):=by rw [show m s-m s*2 = -(m s) by omega,Int.neg_mul]
  rw [this]; omega
theorem part_up (h:Car n c) {m:Nat→Int} {s:Nat} {w:List Nat} (hs:s<n) (hw:Lets n w) (hm:0<m s):(Part n c m (s::w)↔Part n c m w)∧(Part n c (sW c s m) w→Part n c m w):=by
 have key:Part n c (sW c s m) w→Part n c m w:=by
  rintro ⟨y,hy,he⟩;have hyl:=zEP hw hy;have e2:=he s hs;have e3:sW c s m s = -(m s):=by unfold sW; rw [h.diag s hs]; omega
  obtain ⟨x',a1,_,a3,a4⟩:=zEM h hyl hs (by rw [e2,e3]; omega);refine ⟨x',a3.trans hy,fun k hk=>?_⟩;rw [<-a4];show aW c y one k-aW c y one s*c k s=m k;rw [he k hk,e2,e3];unfold sW;rw [Int.neg_mul]; omega
 refine ⟨⟨?_,fun ⟨x,hx,he⟩=>⟨x,hx.trans (List.sublist_cons_self _ _),he⟩⟩,key⟩;rintro ⟨x,hx,he⟩;rcases List.sublist_cons_iff.1 hx with hx' | ⟨y,rfl,hy⟩
 ·exact ⟨x,hx',he⟩
 ·refine key ⟨y,hy,fun k hk=>?_⟩;have e1:∀k,k<n→aW c y one k-aW c y one s*c k s=m k:=he;have e2:=e1 s hs;rw [h.diag s hs] at e2;have e3:=e1 k hk;unfold sW;rw [<-e3,<-e2];have:(aW c y one s-aW c y one s*2)*c k s = -(aW c y one s*c k s):=by rw [show aW c y one s-aW c y one s*2 = -(aW c y one s) by omega,Int.neg_mul]
  rw [this]; omega
end Cox
end Go.Proofs.Ytlchafedbnihoaa
