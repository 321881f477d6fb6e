/- Cartan matrices: what words do to roots, coroots and weights; the signs of roots; exchange. Plain: no program. -/
import Derived.Test.YtlgcdacpjcnjgaaGreatDoorJGCart
namespace Go.Proofs.YtlgcdacpjcnjgaaGreatDoor.Cox
def dotN (f g:Nat→Int):Nat→Int
 | 0=>0
 | n+1=>dotN f g n+f n*g n
structure Car (n:Nat) (c:Nat→Nat→Int):Prop where
 diag:∀i,i<n→c i i=2
 off:∀i j,i<n→j<n→i≠j→-3≤c i j∧c i j≤0
 zero:∀i j,i<n→j<n→c i j=0→c j i=0
def tr (c:Nat→Nat→Int):Nat→Nat→Int:=fun i j=>c j i
theorem Car.tr {n:Nat} {c:Nat→Nat→Int} (h:Car n c):Car n (tr c):=⟨h.diag,fun i j hi hj hn=>h.off j i hj hi (fun e=>hn e.symm),fun i j hi hj=>h.zero j i hj hi⟩
def e (i:Nat):Nat→Int:=fun j=>if j=i then 1 else 0
def sR (n:Nat) (c:Nat→Nat→Int) (i:Nat) (r:Nat→Int):Nat→Int:=fun j=>r j-dotN (c i) r n*e i j
def sW (c:Nat→Nat→Int) (i:Nat) (m:Nat→Int):Nat→Int:=fun k=>m k-m i*c k i
def aR (n:Nat) (c:Nat→Nat→Int):List Nat→(Nat→Int)→(Nat→Int)
 | [],r=>r
 | i::w,r=>sR n c i (aR n c w r)
def aW (c:Nat→Nat→Int):List Nat→(Nat→Int)→(Nat→Int)
 | [],m=>m
 | i::w,m=>sW c i (aW c w m)
def Lets (n:Nat) (w:List Nat):Prop:=∀i∈w,i<n
theorem zCL (f g h:Nat→Int) (a b:Int):∀n,dotN f (fun k=>a*g k+b*h k) n=a*dotN f g n+b*dotN f h n
 | 0=>by simp [dotN]
 | n+1=>by
  simp only [dotN,zCL f g h a b n];rw [Int.mul_add,Int.mul_add,Int.mul_add,Int.mul_left_comm (f n) a,Int.mul_left_comm (f n) b];omega
theorem dotN_comm (f g:Nat→Int):∀n,dotN f g n=dotN g f n
 | 0=>rfl
 | n+1=>by simp only [dotN,dotN_comm f g n,Int.mul_comm]
theorem zCM (f g h:Nat→Int) (b:Int) (n:Nat):dotN f (fun k=>g k-b*h k) n=dotN f g n-b*dotN f h n:=by
 have:=zCL f g h 1 (-b) n;rw [show (fun k=>g k-b*h k)=(fun k=>1*g k + -b*h k) from funext fun k=>by rw [Int.one_mul,Int.neg_mul]; omega,this,Int.one_mul,Int.neg_mul];omega
theorem zKO (f:Nat→Int) (i:Nat):∀n,n≤i→dotN f (e i) n=0
 | 0,_=>rfl
 | n+1,h=>by
  simp only [dotN,zKO f i n (by omega),e];rw [if_neg (by omega)];simp
theorem dotN_e (f:Nat→Int) (i:Nat):∀n,i<n→dotN f (e i) n=f i
 | 0,h=>by omega
 | n+1,h=>by
  simp only [dotN];by_cases hn:n=i
  ·subst hn;rw [zKO f n n (zTI _)];simp [e]
  ·rw [dotN_e f i n (by omega)];have:e i n=0:=by unfold e; rw [if_neg hn]
   simp [this]
theorem dotN_congr {f g h:Nat→Int}:∀{n:Nat},(∀k,k<n→g k=h k)→dotN f g n=dotN f h n
 | 0,_=>rfl
 | n+1,hh=>by
  simp only [dotN,dotN_congr (n:=n) (fun k hk=>hh k (by omega)),hh n (by omega)]
theorem zSj (n:Nat) (c:Nat→Nat→Int) (i:Nat) (f g:Nat→Int) (a b:Int):sR n c i (fun k=>a*f k+b*g k)=fun k=>a*sR n c i f k+b*sR n c i g k:=by
 funext k;simp only [sR,zCL];rw [Int.mul_sub,Int.mul_sub,Int.add_mul,Int.mul_assoc,Int.mul_assoc];omega
theorem zEi (n:Nat) (c:Nat→Nat→Int) (f g:Nat→Int) (a b:Int):∀w,aR n c w (fun k=>a*f k+b*g k)=fun k=>a*aR n c w f k+b*aR n c w g k
 | []=>rfl
 | i::w=>by simp only [aR,zEi n c f g a b w,zSj]
theorem zRr (n:Nat) (c:Nat→Nat→Int) (f g:Nat→Int) (b:Int) (w:List Nat):aR n c w (fun k=>f k-b*g k)=fun k=>aR n c w f k-b*aR n c w g k:=by
 have:=zEi n c f g 1 (-b) w;rw [show (fun k=>f k-b*g k)=(fun k=>1*f k + -b*g k) from funext fun k=>by rw [Int.one_mul,Int.neg_mul]; omega,this];funext k;rw [Int.one_mul,Int.neg_mul]; omega
theorem zSk (c:Nat→Nat→Int) (i:Nat) (f g:Nat→Int) (a b:Int):sW c i (fun k=>a*f k+b*g k)=fun k=>a*sW c i f k+b*sW c i g k:=by
 funext k;simp only [sW];rw [Int.mul_sub,Int.mul_sub,Int.add_mul,Int.mul_assoc,Int.mul_assoc];omega
theorem zLv (c:Nat→Nat→Int) (f g:Nat→Int) (a b:Int):∀w,aW c w (fun k=>a*f k+b*g k)=fun k=>a*aW c w f k+b*aW c w g k
 | []=>rfl
 | i::w=>by simp only [aW,zLv c f g a b w,zSk]
theorem zRs (c:Nat→Nat→Int) (f g:Nat→Int) (b:Int) (w:List Nat):aW c w (fun k=>f k-b*g k)=fun k=>aW c w f k-b*aW c w g k:=by
 have:=zLv c f g 1 (-b) w;rw [show (fun k=>f k-b*g k)=(fun k=>1*f k + -b*g k) from funext fun k=>by rw [Int.one_mul,Int.neg_mul]; omega,this];funext k;rw [Int.one_mul,Int.neg_mul]; omega
theorem zBc (n:Nat) (c:Nat→Nat→Int) (r:Nat→Int) (w':List Nat):∀w,aR n c (w++w') r=aR n c w (aR n c w' r)
 | []=>rfl
 | i::w=>by simp only [List.cons_append,aR,zBc n c r w' w]
theorem aW_append (c:Nat→Nat→Int) (r:Nat→Int) (w':List Nat):∀w,aW c (w++w') r=aW c w (aW c w' r)
 | []=>rfl
 | i::w=>by simp only [List.cons_append,aW,aW_append c r w' w]
section
variable {n:Nat} {c:Nat→Nat→Int}
theorem sR_two (h:Car n c) {i:Nat} (hi:i<n) (r:Nat→Int):sR n c i (sR n c i r)=r:=by
 funext k;have:dotN (c i) (sR n c i r) n = - dotN (c i) r n:=by
  unfold sR;rw [zCM,dotN_e _ _ _ hi,h.diag i hi];omega
 show sR n c i r k-dotN (c i) (sR n c i r) n*e i k=r k;rw [this,Int.neg_mul];simp only [sR];omega
theorem sW_two (h:Car n c) {i:Nat} (hi:i<n) (m:Nat→Int):sW c i (sW c i m)=m:=by
 funext k;simp only [sW,h.diag i hi];rw [show m i-m i*2 = - m i by omega,Int.neg_mul];omega
def bil (n:Nat) (c:Nat→Nat→Int) (x r:Nat→Int):Int:=dotN x (fun i=>dotN (c i) r n) n
theorem zP4 {i:Nat} (hi:i<n) (x r:Nat→Int):bil n c (sR n (tr c) i x) r=bil n c x (sR n c i r):=by
 have h1:bil n c (sR n (tr c) i x) r=bil n c x r-dotN (tr c i) x n*dotN (c i) r n:=by
  unfold bil;rw [dotN_comm];unfold sR;rw [zCM,dotN_comm,dotN_e _ _ _ hi]
 have h2:bil n c x (sR n c i r)=bil n c x r-dotN (c i) r n*dotN x (fun k=>c k i) n:=by
  unfold bil sR;rw [show (fun k=>dotN (c k) (fun j=>r j-dotN (c i) r n*e i j) n)=(fun k=>dotN (c k) r n-dotN (c i) r n*c k i) from funext fun k=>by rw [zCM,dotN_e _ _ _ hi],zCM]
 rw [h1,h2,Int.mul_comm,dotN_comm x];rfl
theorem zDw (h:Car n c) (x r:Nat→Int):∀{w:List Nat},Lets n w→bil n c (aR n (tr c) w x) (aR n c w r)=bil n c x r
 | [],_=>rfl
 | i::w,hw=>by
  have hi:i<n:=hw i (by simp);simp only [aR];rw [zP4 hi,sR_two h hi];exact zDw h x r fun j hj=>hw j (by simp [hj])
theorem zGD {i j:Nat} (hi:i<n) (hj:j<n):bil n c (e i) (e j)=c i j:=by
 unfold bil;rw [dotN_comm,dotN_e _ _ _ hi,dotN_e _ _ _ hj]
theorem zL2 {i:Nat} (hi:i<n) (r:Nat→Int):bil n c (e i) r=dotN (c i) r n:=by
 unfold bil;rw [dotN_comm,dotN_e _ _ _ hi]
theorem wt_adj {i:Nat} (x m:Nat→Int) (hi:i<n):dotN (sR n (tr c) i x) m n=dotN x (sW c i m) n:=by
 have h1:dotN (sR n (tr c) i x) m n=dotN x m n-dotN (tr c i) x n*m i:=by
  rw [dotN_comm];unfold sR;rw [zCM,dotN_comm,dotN_e _ _ _ hi]
 have h2:dotN x (sW c i m) n=dotN x m n-m i*dotN x (fun k=>c k i) n:=by
  unfold sW;rw [zCM]
 rw [h1,h2,Int.mul_comm,dotN_comm x (fun k=>c k i)];rfl
theorem zJm (h:Car n c) (x m:Nat→Int):∀{w:List Nat},Lets n w→dotN (aR n (tr c) w x) (aW c w m) n=dotN x m n
 | [],_=>rfl
 | i::w,hw=>by
  have hi:i<n:=hw i (by simp);simp only [aR,aW];rw [wt_adj _ _ hi,sW_two h hi];exact zJm h x m fun j hj=>hw j (by simp [hj])
def wt (n:Nat) (c:Nat→Nat→Int) (r:Nat→Int):Nat→Int:=fun k=>dotN (c k) r n
theorem wt_s {i:Nat} (hi:i<n) (r:Nat→Int):wt n c (sR n c i r)=sW c i (wt n c r):=by
 funext k;unfold wt sW sR;rw [zCM,dotN_e _ _ _ hi]
theorem wt_a (r:Nat→Int):∀{w:List Nat},Lets n w→wt n c (aR n c w r)=aW c w (wt n c r)
 | [],_=>rfl
 | i::w,hw=>by
  have hi:i<n:=hw i (by simp);simp only [aR,aW];rw [wt_s hi,wt_a r fun j hj=>hw j (by simp [hj])]
structure Eqv (n:Nat) (c:Nat→Nat→Int) (w w':List Nat):Prop where
 r:∀r,aR n c w r=aR n c w' r
 x:∀x,aR n (tr c) w x=aR n (tr c) w' x
 m:∀m,aW c w m=aW c w' m
theorem Eqv.refl (w:List Nat):Eqv n c w w:=⟨fun _=>rfl,fun _=>rfl,fun _=>rfl⟩
theorem Eqv.symm {a b:List Nat} (h:Eqv n c a b):Eqv n c b a:=⟨fun r=>(h.r r).symm,fun r=>(h.x r).symm,fun r=>(h.m r).symm⟩
theorem Eqv.trans {a b d:List Nat} (h:Eqv n c a b) (k:Eqv n c b d):Eqv n c a d:=⟨fun r=>(h.r r).trans (k.r r),fun r=>(h.x r).trans (k.x r),fun r=>(h.m r).trans (k.m r)⟩
theorem Eqv.app {a b a' b':List Nat} (h:Eqv n c a b) (k:Eqv n c a' b'):Eqv n c (a++a') (b++b') :=
 ⟨fun r=>by rw [zBc,zBc,h.r,k.r],fun r=>by rw [zBc,zBc,h.x,k.x],fun r=>by rw [aW_append,aW_append,h.m,k.m]⟩
theorem Eqv.two (h:Car n c) {i:Nat} (hi:i<n):Eqv n c [i,i] []:=⟨fun r=>sR_two h hi r,fun r=>sR_two h.tr hi r,fun r=>sW_two h hi r⟩
theorem zL9 (h:Car n c) {y:List Nat} {s k:Nat} (hy:Lets n y) (hs:s<n) (hk:k<n) (h1:aR n c y (e s)=e k) (h2:aR n (tr c) y (e s)=e k) (r:Nat→Int):aR n c (y++[s]) r=aR n c (k::y) r:=by
 rw [zBc];show aR n c y (sR n c s r)=sR n c k (aR n c y r);unfold sR;rw [zRr,h1,<-zL2 hk,<-zL2 hs,<-h2,zDw h _ _ hy]
theorem zSM (h:Car n c) {y:List Nat} {s k:Nat} (hy:Lets n y) (hs:s<n) (hk:k<n) (h1:aR n c y (e s)=e k) (h2:aR n (tr c) y (e s)=e k) (m:Nat→Int):aW c (y++[s]) m=aW c (k::y) m:=by
 rw [aW_append];show aW c y (sW c s m)=sW c k (aW c y m);have e1:∀(i:Nat) (hi:i<n),(fun a=>c a i)=wt n c (e i):=fun i hi=>funext fun a=>by unfold wt; rw [dotN_e _ _ _ hi]
 have e2:∀(i:Nat) (hi:i<n) (v:Nat→Int),v i=dotN (e i) v n:=fun i hi v=>by rw [dotN_comm,dotN_e _ _ _ hi]
 have e3:m s=aW c y m k:=by rw [e2 s hs m,e2 k hk (aW c y m),<-h2,zJm h _ _ hy]
 unfold sW;have e4:=zRs c m (fun a=>c a s) (m s) y;rw [e4,e1 s hs,<-wt_a _ hy,h1,<-e1 k hk,e3]
theorem comm (h:Car n c) {y:List Nat} {s k:Nat} (hy:Lets n y) (hs:s<n) (hk:k<n) (h1:aR n c y (e s)=e k) (h2:aR n (tr c) y (e s)=e k):Eqv n c (y++[s]) (k::y) :=
 ⟨zL9 h hy hs hk h1 h2,zL9 h.tr hy hs hk h2 h1,zSM h hy hs hk h1 h2⟩
def Pos (n:Nat) (r:Nat→Int):Prop:=∀k,k<n→0≤r k
def Neg (n:Nat) (r:Nat→Int):Prop:=∀k,k<n→r k≤0
def PosA (n:Nat) (c:Nat→Nat→Int) (w:List Nat) (s:Nat):Prop:=Pos n (aR n c w (e s))∧Pos n (aR n (tr c) w (e s))
def NegA (n:Nat) (c:Nat→Nat→Int) (w:List Nat) (s:Nat):Prop:=Neg n (aR n c w (e s))∧Neg n (aR n (tr c) w (e s))
def Coh (n:Nat) (c:Nat→Nat→Int) (w:List Nat) (s:Nat):Prop:=PosA n c w s∨NegA n c w s
theorem zEj {j:Nat} (hj:n≤j) (r:Nat→Int):∀{w:List Nat},Lets n w→aR n c w r j=r j
 | [],_=>rfl
 | i::w,hw=>by
  have hi:i<n:=hw i (by simp);have:e i j=0:=by unfold e; rw [if_neg (by omega)]
  simp only [aR,sR,this,Int.mul_zero,Int.sub_zero];exact zEj hj r fun j hj=>hw j (by simp [hj])
theorem zDG {k:Nat} {r:Nat→Int} (h1:Pos n r) (h2:Neg n (sR n c k r)) (h0:∀j,n≤j→r j=0):r=fun j=>r k*e k j:=by
 funext j;by_cases hjk:j=k
 ·subst hjk; simp [e]
 ·have e0:e k j=0:=by unfold e; rw [if_neg hjk]
  rw [e0,Int.mul_zero];by_cases hj:j<n
  ·have a1:=h1 j hj;have a2:=h2 j hj;simp only [sR,e0,Int.mul_zero,Int.sub_zero] at a2;omega
  ·exact h0 j (by omega)
theorem zIG {s:Nat} (hs:s<n) {j:Nat} (hj:n≤j):e s j=0:=by unfold e; rw [if_neg (by omega)]
theorem dotN_scale (f g:Nat→Int) (a:Int) (n:Nat):dotN f (fun k=>a*g k) n=a*dotN f g n:=by
 have:=zCL f g g a 0 n;simpa using this
theorem zHM (x r:Nat→Int) (a b:Int):bil n c (fun j=>a*x j) (fun j=>b*r j)=a*b*bil n c x r:=by
 unfold bil;rw [dotN_comm,dotN_scale,dotN_comm];rw [show (fun i=>dotN (c i) (fun j=>b*r j) n)=(fun i=>b*dotN (c i) r n) from funext fun i=>dotN_scale _ _ _ _,dotN_scale,Int.mul_assoc]
theorem zCm (h:Car n c) {s:Nat} (hs:s<n):∀{w:List Nat},Lets n w→(∀y,y.length<w.length→Lets n y→Coh n c y s)→NegA n c w s→∃w',Lets n w'∧w'.length+1=w.length∧Eqv n c (w++[s]) w'
 | [],_,_,hn=>by
  have:=hn.1 s hs;simp [aR,e] at this
 | k::y,hw,hc,hn=>by
  have hk:k<n:=hw k (by simp);have hy:Lets n y:=fun j hj=>hw j (by simp [hj]);rcases hc y (by simp) hy with hp | hn'
  ·have hr:=zDG hp.1 hn.1 (fun j hj=>by rw [zEj hj _ hy,zIG hs hj]);have hx:=zDG (c:=tr c) hp.2 hn.2 (fun j hj=>by rw [zEj hj _ hy,zIG hs hj]);have hb:=zDw h (e s) (e s) hy;rw [hr,hx,zHM,zGD hk hk,zGD hs hs,h.diag k hk,h.diag s hs] at hb;have p1:=hp.1 k hk;have p2:=hp.2 k hk;generalize aR n c y (e s) k=a at *;generalize aR n (tr c) y (e s) k=b at *;have hab:b*a=1:=by omega
   have ha:a=1:=Int.eq_one_of_mul_eq_one_left p1 hab;have hb1:b=1:=by rw [ha] at hab; omega
   subst ha; subst hb1;have h1:aR n c y (e s)=e k:=by rw [hr]; funext j; simp
   have h2:aR n (tr c) y (e s)=e k:=by rw [hx]; funext j; simp
   refine ⟨y,hy,by simp,?_⟩;have h3:=comm h hy hs hk h1 h2;have h4:Eqv n c (k::(y++[s])) ([k]++(k::y)):=(Eqv.refl [k]).app h3;have h5:Eqv n c ([k,k]++y) ([]++y):=(Eqv.two h hk).app (Eqv.refl y);exact h4.trans h5
  ·obtain ⟨w',h1,h2,h3⟩:=zCm h hs hy (fun z hz hz'=>hc z (by simp; omega) hz') hn';refine ⟨k::w',fun j hj=>?_,by simp; omega,(Eqv.refl [k]).app h3⟩;rcases List.mem_cons.1 hj with rfl | hj
   ·exact hk
   ·exact h1 j hj
end
end Go.Proofs.YtlgcdacpjcnjgaaGreatDoor.Cox
namespace Go.Proofs.YtlgcdacpjcnjgaaGreatDoor.Cox
structure St where
 a:Int
 b:Int
 a':Int
 b':Int
deriving DecidableEq
def stS (p q:Int) (x:St):St:=⟨-x.a+p*x.b,x.b,-x.a'+q*x.b',x.b'⟩
def stT (p q:Int) (x:St):St:=⟨x.a,-x.b+q*x.a,x.a',-x.b'+p*x.a'⟩
def St.neg (x:St):St:=⟨-x.a,-x.b,-x.a',-x.b'⟩
def up (p q:Int):Nat→St
 | 0=>⟨1,0,1,0⟩
 | k+1=>if k % 2=0 then stT p q (up p q k) else stS p q (up p q k)
theorem St.ext' {x y:St} (h1:x.a=y.a) (h2:x.b=y.b) (h3:x.a'=y.a') (h4:x.b'=y.b'):x=y:=by
 cases x; cases y; simp_all
theorem zRR (p q:Int) (x:St):stS p q (stS p q x)=x:=by
 apply St.ext' <;> simp only [stS] <;> omega
theorem zRT (p q:Int) (x:St):stT p q (stT p q x)=x:=by
 apply St.ext' <;> simp only [stT] <;> omega
theorem zRQ (p q:Int) (x:St):stS p q x.neg=(stS p q x).neg:=by
 apply St.ext' <;> simp only [stS,St.neg,Int.mul_neg] <;> omega
theorem zRS (p q:Int) (x:St):stT p q x.neg=(stT p q x).neg:=by
 apply St.ext' <;> simp only [stT,St.neg,Int.mul_neg] <;> omega
theorem zJB (x:St):x.neg.neg=x:=by
 apply St.ext' <;> simp only [St.neg] <;> omega
def zD6 (p q:Int) (x:St):Prop:=∃k,x=up p q k∨x=(up p q k).neg
theorem zRJ {p q:Int} {x:St} (h:zD6 p q x):zD6 p q (stT p q x):=by
 have key:∀k,zD6 p q (stT p q (up p q k)):=by
  intro k;by_cases hk:k % 2=0
  ·exact ⟨k+1,.inl (by simp [up,hk])⟩
  ·obtain ⟨j,rfl⟩:∃j,k=j+1:=⟨k-1,by omega⟩;have hj:j % 2=0:=by omega
   exact ⟨j,.inl (by simp only [up,hj,if_true]; exact zRT p q _)⟩
 obtain ⟨k,rfl | rfl⟩:=h
 ·exact key k
 ·rw [zRS];obtain ⟨j,h | h⟩:=key k
  ·exact ⟨j,.inr (by rw [h])⟩
  ·exact ⟨j,.inl (by rw [h,zJB])⟩
theorem zRI {p q:Int} {x:St} (h:zD6 p q x):zD6 p q (stS p q x):=by
 have key:∀k,zD6 p q (stS p q (up p q k)):=by
  intro k;rcases k with _ | j
  ·exact ⟨0,.inr (by apply St.ext' <;> simp [stS,up,St.neg])⟩
  ·by_cases hk:j % 2=0
   ·have hj:(j+1) % 2≠0:=by omega
    exact ⟨j+2,.inl (by rw [show up p q (j+2)=if (j+1) % 2=0 then stT p q (up p q (j+1)) else stS p q (up p q (j+1)) from rfl,if_neg hj])⟩
   ·exact ⟨j,.inl (by simp only [up,hk,if_false]; exact zRR p q _)⟩
 obtain ⟨k,rfl | rfl⟩:=h
 ·exact key k
 ·rw [zRQ];obtain ⟨j,h | h⟩:=key k
  ·exact ⟨j,.inr (by rw [h])⟩
  ·exact ⟨j,.inl (by rw [h,zJB])⟩
def Coh4 (x:St):Prop:=(0≤x.a∧0≤x.b∧0≤x.a'∧0≤x.b')∨(x.a≤0∧x.b≤0∧x.a'≤0∧x.b'≤0)
instance (x:St):Decidable (Coh4 x):=by unfold Coh4; infer_instance
theorem zLB (p q:Int) (k:Nat):up p q (k+1)=if k % 2=0 then stT p q (up p q k) else stS p q (up p q k):=rfl
theorem zNj {p q:Int} (h:up p q 24=up p q 0) (k:Nat):up p q (24+k)=up p q k:=by
 induction k with
 | zero=>exact h
 | succ k ih =>
  have e1:(24+k) % 2=k % 2:=by omega
  rw [<-Nat.add_assoc,zLB,zLB,e1,ih]
theorem zQL {p q:Int} (h:up p q 24=up p q 0) (h2:∀k,k<24→Coh4 (up p q k)) (k:Nat):Coh4 (up p q k):=by
 induction k using Nat.strongRecOn with
 | _ k ih =>
  by_cases hk:k<24
  ·exact h2 k hk
  ·have:=ih (k-24) (by omega);rw [<-zNj h (k-24),show 24+(k-24)=k by omega] at this;exact this
theorem zKJ {p q:Int} (hp:2≤p∧p≤3) (hq:2≤q∧q≤3):∀k,0≤(up p q k).a∧0≤(up p q k).b∧0≤(up p q k).a'∧0≤(up p q k).b' ∧
  (k % 2=0→2*(up p q k).b≤q*(up p q k).a∧2*(up p q k).b'≤p*(up p q k).a')∧(k % 2=1→2*(up p q k).a≤p*(up p q k).b∧2*(up p q k).a'≤q*(up p q k).b')
 | 0=>by
  simp only [up];omega
 | k+1=>by
  obtain ⟨h1,h2,h3,h4,h5,h6⟩:=zKJ hp hq k;by_cases hk:k % 2=0
  ·obtain ⟨h5,h7⟩:=h5 hk;simp only [up,hk,if_true,stT];generalize up p q k=x at *;have cp:p=2∨p=3:=by omega
   have cq:q=2∨q=3:=by omega
   rcases cp with rfl | rfl <;> rcases cq with rfl | rfl <;> omega
  ·obtain ⟨h6,h7⟩:=h6 (by omega);simp only [up,hk,if_false,stS];generalize up p q k=x at *;have cp:p=2∨p=3:=by omega
   have cq:q=2∨q=3:=by omega
   rcases cp with rfl | rfl <;> rcases cq with rfl | rfl <;> omega
theorem zL8 {p q:Int} (hp:0≤p∧p≤3) (hq:0≤q∧q≤3) (h0:p=0↔q=0) (k:Nat):Coh4 (up p q k):=by
 by_cases h4:2≤p∧2≤q
 ·have:=zKJ ⟨h4.1,hp.2⟩ ⟨h4.2,hq.2⟩ k;exact .inl ⟨this.1,this.2.1,this.2.2.1,this.2.2.2.1⟩
 ·have hc:(p=0∧q=0)∨(p=1∧q=1)∨(p=1∧q=2)∨(p=1∧q=3)∨(p=2∧q=1)∨(p=3∧q=1):=by omega
  rcases hc with ⟨rfl,rfl⟩ | ⟨rfl,rfl⟩ | ⟨rfl,rfl⟩ | ⟨rfl,rfl⟩ | ⟨rfl,rfl⟩ | ⟨rfl,rfl⟩ <;> exact zQL (by decide) (by decide) k
def run (p q:Int):List Bool→St
 | []=>⟨1,0,1,0⟩
 | true::x=>stS p q (run p q x)
 | false::x=>stT p q (run p q x)
theorem zRL {p q:Int} (hp:0≤p∧p≤3) (hq:0≤q∧q≤3) (h0:p=0↔q=0) (x:List Bool):Coh4 (run p q x):=by
 have h:zD6 p q (run p q x):=by
  induction x with
  | nil=>exact ⟨0,.inl rfl⟩
  | cons b x ih =>
   cases b
   ·exact zRJ ih
   ·exact zRI ih
 obtain ⟨k,h | h⟩:=h
 ·rw [h]; exact zL8 hp hq h0 k
 ·rw [h];have:=zL8 hp hq h0 k;unfold Coh4 at *;simp only [St.neg];omega
end Go.Proofs.YtlgcdacpjcnjgaaGreatDoor.Cox
namespace Go.Proofs.YtlgcdacpjcnjgaaGreatDoor.Cox
section
variable {n:Nat} {c:Nat→Nat→Int}
def toW (s t:Nat) (x:List Bool):List Nat:=x.map fun b=>if b then s else t
theorem zKx {s t:Nat} (hs:s<n) (ht:t<n) (a b:Int) (i:Nat):sR n c i (fun j=>a*e s j+b*e t j)=fun j=>(a*e s j+b*e t j)-(a*c i s+b*c i t)*e i j:=by
 unfold sR;rw [zCL,dotN_e _ _ _ hs,dotN_e _ _ _ ht]
theorem zPP (h:Car n c) {s t:Nat} (hs:s<n) (ht:t<n) (x:List Bool) :
  aR n c (toW s t x) (e s)=(fun j=>(run (-c s t) (-c t s) x).a*e s j+(run (-c s t) (-c t s) x).b*e t j) ∧
  aR n (tr c) (toW s t x) (e s)=(fun j=>(run (-c s t) (-c t s) x).a'*e s j+(run (-c s t) (-c t s) x).b'*e t j):=by
 induction x with
 | nil=>exact ⟨by funext j; simp [toW,aR,run],by funext j; simp [toW,aR,run]⟩
 | cons b x ih =>
  obtain ⟨h1,h2⟩:=ih;cases b
  ·have e1:toW s t (false::x)=t::toW s t x:=rfl;rw [e1];simp only [aR,h1,h2,run,stT,zKx hs ht,h.diag t ht,show tr c t s=c s t from rfl,show tr c t t=c t t from rfl];generalize run (-c s t) (-c t s) x=y;refine ⟨funext fun j=>?_,funext fun j=>?_⟩
   ·rw [Int.add_mul,Int.add_mul,Int.neg_mul,Int.neg_mul,Int.mul_assoc y.b,Int.mul_left_comm y.b,Int.mul_comm (c t s) y.a,Int.neg_mul]; omega
   ·rw [Int.add_mul,Int.add_mul,Int.neg_mul,Int.neg_mul,Int.mul_assoc y.b',Int.mul_left_comm y.b',Int.mul_comm (c s t) y.a',Int.neg_mul]; omega
  ·have e1:toW s t (true::x)=s::toW s t x:=rfl;rw [e1];simp only [aR,h1,h2,run,stS,zKx hs ht,h.diag s hs,show tr c s t=c t s from rfl,show tr c s s=c s s from rfl];generalize run (-c s t) (-c t s) x=y;refine ⟨funext fun j=>?_,funext fun j=>?_⟩
   ·rw [Int.add_mul,Int.add_mul,Int.neg_mul,Int.neg_mul,Int.mul_assoc y.a,Int.mul_left_comm y.a,Int.mul_comm (c s t) y.b,Int.neg_mul]; omega
   ·rw [Int.add_mul,Int.add_mul,Int.neg_mul,Int.neg_mul,Int.mul_assoc y.a',Int.mul_left_comm y.a',Int.mul_comm (c t s) y.b',Int.neg_mul]; omega
theorem zKI {w w':List Nat} {s:Nat} (h:Eqv n c w w') (k:Coh n c w' s):Coh n c w s:=by
 unfold Coh PosA NegA at *;rw [h.r,h.x];exact k
theorem zJb {v x:List Nat} {s:Nat} (h:Car n c) (hs:s<n) (hv:Lets n v) (hc:∀y,y.length<v.length→Lets n y→Coh n c y s) (hn:NegA n c v s) :
  ∃v',Lets n v'∧v'.length+1=v.length∧Eqv n c (v++x) (v'++(s::x)):=by
 obtain ⟨v',h1,h2,h3⟩:=zCm h hs hv hc hn;refine ⟨v',h1,h2,?_⟩;have h4:Eqv n c ((v++[s])++(s::x)) (v'++(s::x)):=h3.app (Eqv.refl _);have h5:Eqv n c (v++([s,s]++x)) (v++([]++x)):=(Eqv.refl v).app ((Eqv.two h hs).app (Eqv.refl x));have e1:(v++[s])++(s::x)=v++([s,s]++x):=by simp
 rw [e1] at h4;exact h5.symm.trans h4
theorem zQM (h:Car n c) {s t:Nat} (hs:s<n) (ht:t<n) (hst:s≠t) {N:Nat} (ih:∀w,w.length≤N→Lets n w→∀i,i<n→Coh n c w i) :
  ∀(L:Nat) (v:List Nat) (x:List Bool),v.length=L→L≤N→Lets n v→Coh n c (v++toW s t x) s:=by
 intro L
 induction L using Nat.strongRecOn with
 | _ L ihL =>
  intro v x hvl hL hv;have hv':v.length≤N:=by omega
  rcases ih v hv' hv s hs with ps | ns
  ·rcases ih v hv' hv t ht with pt | nt
   ·have hp:=h.off s t hs ht hst;have hq:=h.off t s ht hs (fun e=>hst e.symm);have hc:=zRL (p:=-c s t) (q:=-c t s) (by omega) (by omega) (by
     have h1:=h.zero s t hs ht;have h2:=h.zero t s ht hs;omega) x
    obtain ⟨h1,h2⟩:=zPP h hs ht x;unfold Coh PosA NegA;rw [zBc,zBc,h1,h2,zEi,zEi];generalize run (-c s t) (-c t s) x=y at *;rcases hc with ⟨a1,a2,a3,a4⟩ | ⟨a1,a2,a3,a4⟩
    ·refine .inl ⟨fun k hk=>?_,fun k hk=>?_⟩
     ·have:=Int.mul_nonneg a1 (ps.1 k hk);have:=Int.mul_nonneg a2 (pt.1 k hk);show 0≤_*_+_*_;omega
     ·have:=Int.mul_nonneg a3 (ps.2 k hk);have:=Int.mul_nonneg a4 (pt.2 k hk);show 0≤_*_+_*_;omega
    ·refine .inr ⟨fun k hk=>?_,fun k hk=>?_⟩
     ·have:=Int.mul_nonneg (a:=-y.a) (by omega) (ps.1 k hk);have:=Int.mul_nonneg (a:=-y.b) (by omega) (pt.1 k hk);rw [Int.neg_mul] at *;show y.a*_+y.b*_≤0;omega
     ·have:=Int.mul_nonneg (a:=-y.a') (by omega) (ps.2 k hk);have:=Int.mul_nonneg (a:=-y.b') (by omega) (pt.2 k hk);rw [Int.neg_mul] at *;show y.a'*_+y.b'*_≤0;omega
   ·obtain ⟨v',h1,h2,h3⟩:=zJb (x:=toW s t x) h ht hv (fun y hy hy'=>ih y (by omega) hy' t ht) nt;exact zKI h3 (ihL v'.length (by omega) v' (false::x) rfl (by omega) h1)
  ·obtain ⟨v',h1,h2,h3⟩:=zJb (x:=toW s t x) h hs hv (fun y hy hy'=>ih y (by omega) hy' s hs) ns;exact zKI h3 (ihL v'.length (by omega) v' (true::x) rfl (by omega) h1)
theorem zEC (h:Car n c):∀(N:Nat) (w:List Nat),w.length≤N→Lets n w→∀s,s<n→Coh n c w s
 | 0,w,hw,_,s,hs=>by
  have:w=[]:=List.eq_nil_of_length_eq_zero (by omega);subst this;refine .inl ⟨fun k _=>?_,fun k _=>?_⟩ <;> (simp only [aR,e]; split <;> omega)
 | N+1,w,hw,hl,s,hs=>by
  rcases List.eq_nil_or_concat w with rfl | ⟨v,t,rfl⟩
  ·exact zEC h N [] (by simp) hl s hs
  ·have hvl:v.length≤N:=by simp at hw; omega
   have hv:Lets n v:=fun i hi=>hl i (by simp [hi]);have ht:t<n:=hl t (by simp);by_cases hst:s=t
   ·subst hst;have hsub:∀(d:Nat→Nat→Int),Car n d→aR n d (v++[s]) (e s)=fun k=>- aR n d v (e s) k:=by
     intro d hd;rw [zBc];show aR n d v (sR n d s (e s))=_;have:sR n d s (e s)=fun k=>(-1)*e s k+0*e s k:=by
      funext k;unfold sR;rw [dotN_e _ _ _ hs,hd.diag s hs];omega
     rw [this,zEi];funext k;omega
    simp only [List.concat_eq_append];unfold Coh PosA NegA;rw [hsub c h,hsub (tr c) h.tr];rcases zEC h N v hvl hv s hs with hh | hh
    ·refine .inr ⟨fun k hk=>?_,fun k hk=>?_⟩
     ·have:=hh.1 k hk; show -_≤_; omega
     ·have:=hh.2 k hk; show -_≤_; omega
    ·refine .inl ⟨fun k hk=>?_,fun k hk=>?_⟩
     ·have:=hh.1 k hk; show _≤-_; omega
     ·have:=hh.2 k hk; show _≤-_; omega
   ·simp only [List.concat_eq_append];exact zQM h hs ht hst (fun w hw hl i hi=>zEC h N w hw hl i hi) v.length v [false] rfl hvl hv
theorem coh (h:Car n c) {w:List Nat} (hw:Lets n w) {s:Nat} (hs:s<n):Coh n c w s:=zEC h w.length w (zTI _) hw s hs
def one:Nat→Int:=fun _=>1
theorem zCF:∀{n:Nat} {x:Nat→Int},Pos n x→0≤dotN x one n∧(dotN x one n=0→∀k,k<n→x k=0)
 | 0,_,_=>⟨Int.le_refl _,fun _ k hk=>by omega⟩
 | n+1,x,h=>by
  obtain ⟨h1,h2⟩:=zCF (n:=n) (x:=x) (fun k hk=>h k (by omega));have h3:=h n (by omega);simp only [dotN,one,Int.mul_one] at *;refine ⟨by omega,fun h0 k hk=>?_⟩;by_cases hkn:k=n
  ·subst hkn; omega
  ·exact h2 (by omega) k (by omega)
theorem zHV {x f:Nat→Int} {n:Nat} (h:∀k,k<n→x k=0):dotN x f n=0:=by
 rw [dotN_comm,dotN_congr (h:=fun k=>0*0) (fun k hk=>by rw [h k hk]; rfl)];have:=zCL f (fun _=>0) (fun _=>0) 0 0 n;simpa using this
theorem zAb {w:List Nat} (h:Lets n w):Lets n w.reverse:=fun i hi=>h i (by simpa using hi)
theorem zCW (h:Car n c) (m:Nat→Int):∀{w:List Nat},Lets n w→aW c w.reverse (aW c w m)=m
 | [],_=>rfl
 | i::w,hw=>by
  have hi:i<n:=hw i (by simp);rw [List.reverse_cons,aW_append];show aW c w.reverse (sW c i (sW c i (aW c w m)))=m;rw [sW_two h hi];exact zCW h m fun j hj=>hw j (by simp [hj])
theorem zFQ (h:Car n c) (m:Nat→Int) {w:List Nat} (hw:Lets n w):aW c w (aW c w.reverse m)=m:=by
 have:=zCW h m (zAb hw);rwa [List.reverse_reverse] at this
theorem zEN (h:Car n c) {w:List Nat} (hw:Lets n w) {i:Nat} (hi:i<n) (m:Nat→Int):aW c w m i=dotN (aR n (tr c) w.reverse (e i)) m n:=by
 have h1:aW c w m i=dotN (e i) (aW c w m) n:=by rw [dotN_comm,dotN_e _ _ _ hi]
 rw [h1,<-zJm h (e i) (aW c w m) (zAb hw),zCW h m hw]
theorem image_step (h:Car n c) {w:List Nat} (hw:Lets n w) {i:Nat} (hi:i<n) :
  aW c w one i≠0∧(aW c w one i<0→∃w',Lets n w'∧w'.length+1=w.length∧sW c i (aW c w one)=aW c w' one):=by
 rw [zEN h hw hi];have hr:=zAb hw;have hb:=zDw h (e i) (e i) hr;rw [zGD hi hi,h.diag i hi] at hb;rcases coh h hr hi with hp | hn
 ·obtain ⟨h1,h2⟩:=zCF hp.2;refine ⟨fun h0=>?_,fun h0=>by omega⟩;have:=h2 h0;unfold bil at hb;rw [zHV this] at hb;omega
 ·have hneg:Pos n (fun k=>-1*aR n (tr c) w.reverse (e i) k+0*0):=fun k hk=>by have:=hn.2 k hk; show 0≤-1*_+0*0; omega
  obtain ⟨h1,h2⟩:=zCF hneg;rw [dotN_comm,zCL one (aR n (tr c) w.reverse (e i)) (fun _=>0) (-1) 0 n,dotN_comm] at h1 h2;refine ⟨fun h0=>?_,fun _=>?_⟩
  ·have h3:=h2 (by rw [h0]; omega);unfold bil at hb;rw [zHV (fun k hk=>by have:=h3 k hk; omega)] at hb;omega
  ·obtain ⟨w',a1,a2,a3⟩:=zCm h hi hr (fun y _ hy=>coh h hy hi) hn;refine ⟨w'.reverse,zAb a1,by simp at a2 ⊢; omega,?_⟩;show aW c (i::w) one=aW c w'.reverse one;have e1:(i::w)=(w.reverse++[i]).reverse:=by simp
   have hl:Lets n (w.reverse++[i]):=fun j hj=>by
    rcases List.mem_append.1 hj with h | h
    ·exact hr j h
    ·simp at h; omega
   rw [e1];have b1:=zFQ h one a1;have b2:=zCW h (aW c w'.reverse one) hl;rw [a3.m,b1] at b2;exact b2
end
end Go.Proofs.YtlgcdacpjcnjgaaGreatDoor.Cox
namespace Go.Proofs.YtlgcdacpjcnjgaaGreatDoor
open Go.RowKit
set_option maxRecDepth 20000
def zAJ:List Int→Option Nat
 | []=>none
 | x::xs=>if x<0 then some 0 else (zAJ xs).map (· + 1)
theorem zDr:∀{v:List Int},zAJ v=none↔∀x∈v,0≤x
 | []=>by simp [zAJ]
 | x::xs=>by
  unfold zAJ;by_cases h:x<0
  ·simp [h]; intro h2; omega
  ·simp [h,zDr (v:=xs)]; omega
theorem zBu:∀{v:List Int} {i:Nat},zAJ v=some i→∃x,v[i]? = some x∧x<0∧∀j,j<i→∀y,v[j]? = some y→0≤y
 | [],_,h=>by simp [zAJ] at h
 | x::xs,i,h=>by
  unfold zAJ at h;by_cases hx:x<0
  ·simp [hx] at h; subst h; exact ⟨x,rfl,hx,fun j hj=>by omega⟩
  ·simp [hx] at h;obtain ⟨k,hk,rfl⟩:=h;obtain ⟨y,h1,h2,h3⟩:=zBu hk;refine ⟨y,by simpa using h1,h2,fun j hj z hz=>?_⟩;cases j with
   | zero=>simp at hz; omega
   | succ j=>exact h3 j (by omega) z (by simpa using hz)
theorem zB1 {v:List Int} {i:Nat} (h:zAJ v=some i):i<v.length:=by
 obtain ⟨x,h1,_⟩:=zBu h;exact (zTG h1).1
def nf (c:List (List Int)):Nat→List Int→List Int
 | 0,_=>[]
 |f+1,v=>match zAJ v with
  | none=>[]
  | some i=>(i:Int)::nf c f (refl c i v)
def toN (w:List Int):List Nat:=w.map Int.toNat
def zAF (c:List (List Int)) (w:List Int):List Int:=act c w (List.replicate c.length 1)
def zAD (c:List (List Int)) (w:List Int):List Int:=nf c 30 (zAF c w)
theorem CartanP.car {c:List (List Int)} (h:CartanP c):Cox.Car c.length (ent c):=by
 refine ⟨fun i hi=>?_,fun i j hi hj hn=>?_,fun i j hi hj h0=>?_⟩
 ·have:=h.ok i i hi hi;simpa [okE] using this
 ·have:=h.ok i j hi hj;simp [okE,hn] at this;exact this.1
 ·by_cases hn:i=j
  ·subst hn; exact h0
  ·have:=h.ok i j hi hj;simp [okE,hn] at this;have:=this.2;rw [h0] at this;simpa using this
structure Im (c:List (List Int)) (v:List Int) (m:Nat):Prop where
 len:v.length=c.length
 word:∃w:List Nat,Cox.Lets c.length w∧w.length=m∧∀k,k<c.length→num v k=Cox.aW (ent c) w Cox.one k
theorem zOi (m:Nat):(1:Int)≤4 ^ m:=by
 have:=Nat.one_le_two_pow (n:=0)
 induction m with
 | zero=>simp
 | succ m ih=>rw [Int.pow_succ]; omega
theorem zD7 {n:Nat} {c:Nat→Nat→Int} (h:Cox.Car n c):∀{w:List Nat},Cox.Lets n w→∀k,k<n→-(4 ^ w.length)≤Cox.aW c w Cox.one k∧Cox.aW c w Cox.one k≤4 ^ w.length
 | [],_,k,_=>by simp [Cox.aW,Cox.one]
 | i::w,hw,k,hk=>by
  have hi:i<n:=hw i (by simp);have hw':Cox.Lets n w:=fun j hj=>hw j (by simp [hj]);have b1:=zD7 h hw' k hk;have b2:=zD7 h hw' i hi;simp only [Cox.aW,Cox.sW,List.length_cons,Int.pow_succ];generalize Cox.aW c w Cox.one i=x at *;generalize Cox.aW c w Cox.one k=y at *;have hpos:=zOi w.length;generalize (4:Int) ^ w.length=B at *;by_cases hik:k=i
  ·subst hik;rw [h.diag k hk];have:x=y∨True:=.inr trivial;omega
  ·have ho:=h.off k i hk hi hik;have hc:c k i=0∨c k i = -1∨c k i = -2∨c k i = -3:=by omega
   rcases hc with e | e | e | e <;> rw [e] <;> omega
theorem zFb {x:Int} (h1:-9223372036854775808≤x) (h2:x≤9223372036854775807):wrap64 x=x:=by
 unfold wrap64;omega
theorem zJO {c:List (List Int)} {i:Nat} {v:List Int} {k:Nat} (hk:k<v.length):num (refl c i v) k=wrap64 (num v k-wrap64 (num v i*ent c k i)):=by
 have key:∀(x:Int) (l:List Int) (o k:Nat),k<l.length→num (zAh c i x l o) k=wrap64 (num l k-wrap64 (x*ent c (o+k) i)):=by
  intro x l
  induction l with
  | nil=>intro o k hk; simp at hk
  | cons y ys ih =>
   intro o k hk;cases k with
   | zero=>simp [zAh,num]
   | succ k =>
    have:=ih (o+1) k (by simpa using hk);simp only [num,zAh,List.getElem?_cons_succ] at this ⊢;rw [this,show o+1+k=o+(k+1) by omega]
 have:=key (num v i) v 0 k hk;rw [Nat.zero_add] at this;exact this
theorem zNB {m:Nat} (h:m≤30):(4:Int) ^ m≤1152921504606846976:=by
 have h1:(4:Nat) ^ m≤4 ^ 30:=Nat.pow_le_pow_right (by omega) h;have h2:((4 ^ m:Nat):Int)≤((4 ^ 30:Nat):Int):=by exact_mod_cast h1
 have h3:((4 ^ m:Nat):Int)=(4:Int) ^ m:=by simp
 rw [h3] at h2;simpa using h2
theorem zBS {c:List (List Int)} (hc:CartanP c) {v:List Int} (hv:v.length=c.length) {w:List Nat} (hw:Cox.Lets c.length w) (hm:w.length≤30) (h:∀k,k<c.length→num v k=Cox.aW (ent c) w Cox.one k) {i:Nat} (hi:i<c.length) {k:Nat} (hk:k<c.length) :
  num (refl c i v) k=Cox.sW (ent c) i (Cox.aW (ent c) w Cox.one) k:=by
 rw [zJO (by omega),h k hk,h i hi];have b1:=zD7 hc.car hw k hk;have b2:=zD7 hc.car hw i hi;have b3:=zNB hm;unfold Cox.sW;generalize Cox.aW (ent c) w Cox.one i=x at *;generalize Cox.aW (ent c) w Cox.one k=y at *;generalize (4:Int) ^ w.length=B at *;have he:ent c k i=2∨ent c k i=0∨ent c k i = -1∨ent c k i = -2∨ent c k i = -3:=by
  by_cases hik:k=i
  ·subst hik; exact .inl (hc.car.diag k hk)
  ·have ho:=hc.car.off k i hk hi hik; omega
 rcases he with e | e | e | e | e <;> rw [e] <;> rw [zFb (x:=x*_) (by omega) (by omega),zFb (by omega) (by omega)]
theorem Im.step {c:List (List Int)} (hc:CartanP c) {v:List Int} {m:Nat} (h:Im c v m) (hm:m≤30) {i:Nat} (hi:i<c.length):Im c (refl c i v) (m+1):=by
 obtain ⟨hl,w,hw,hwl,hn⟩:=h;refine ⟨by rw [zA5,hl],i::w,fun j hj=>?_,by simp [hwl],fun k hk=>zBS hc hl hw (by omega) hn hi hk⟩;rcases List.mem_cons.1 hj with rfl | hj
 ·exact hi
 ·exact hw j hj
theorem zKl {v:List Int} {x:Int} (h:x∈v):∃k,k<v.length∧num v k=x:=by
 obtain ⟨k,hk,rfl⟩:=List.getElem_of_mem h;exact ⟨k,hk,by simp [num,hk]⟩
theorem Im.ne {c:List (List Int)} (hc:CartanP c) {v:List Int} {m:Nat} (h:Im c v m) {x:Int} (hx:x∈v):x≠0:=by
 obtain ⟨hl,w,hw,hwl,hn⟩:=h;obtain ⟨k,hk,rfl⟩:=zKl hx;rw [hn k (by omega)];exact (Cox.image_step hc.car hw (by omega)).1
theorem Im.back {c:List (List Int)} (hc:CartanP c) {v:List Int} {m:Nat} (h:Im c v m) (hm:m≤30) {i:Nat} {x:Int} (hx:v[i]? = some x) (hx0:x<0):∃m',m=m'+1∧Im c (refl c i v) m':=by
 obtain ⟨hl,w,hw,hwl,hn⟩:=h;have hi:i<c.length:=by have:=(zTG hx).1; omega
 obtain ⟨w',a1,a2,a3⟩:=(Cox.image_step hc.car hw hi).2 (by rw [<-hn i hi,zAx hx]; exact hx0);exact ⟨w'.length,by omega,by rw [zA5,hl],w',a1,rfl,fun k hk=>by rw [zBS hc hl hw (by omega) hn hi hk,a3]⟩
theorem Im.zero {c:List (List Int)} {v:List Int} (h:Im c v 0):zAJ v=none:=by
 obtain ⟨hl,w,hw,hwl,hn⟩:=h;have:w=[]:=List.eq_nil_of_length_eq_zero hwl;subst this;refine zDr.2 fun x hx=>?_;obtain ⟨k,hk,rfl⟩:=zKl hx;rw [hn k (by omega)];simp [Cox.aW,Cox.one]
theorem zD0 {c:List (List Int)} (hc:CartanP c):∀(m:Nat) {v:List Int} {f:Nat},Im c v m→m≤30→m≤f→nf c f v=nf c m v
 | 0,v,f,h,_,_=>by
  cases f with
  | zero=>rfl
  | succ f=>simp [nf,h.zero]
 | m+1,v,f,h,hm,hf=>by
  obtain ⟨f,rfl⟩:∃k,f=k+1:=⟨f-1,by omega⟩;simp only [nf];cases e:zAJ v with
  | none=>rfl
  | some i =>
   obtain ⟨x,h1,h2,_⟩:=zBu e;obtain ⟨m',hm',h3⟩:=h.back hc hm h1 h2;have:m'=m:=by omega
   subst this;simp only;rw [zD0 hc m' h3 (by omega) (by omega)]
theorem zLc {c:List (List Int)} (hc:CartanP c):∀(m:Nat) {v:List Int},(nf c m v).length≤m
 | 0,v=>by simp [nf]
 | m+1,v=>by
  simp only [nf];cases e:zAJ v with
  | none=>simp
  | some i=>simp; exact zLc hc m
theorem zCC {c:List (List Int)} (hc:CartanP c) {m:Nat} {v:List Int} {i:Nat} (h:Im c v m) (hm:m≤30) (e:zAJ v=some i):∃m',m=m'+1∧Im c (refl c i v) m'∧nf c 30 v=(i:Int)::nf c 30 (refl c i v):=by
 obtain ⟨x,h1,h2,_⟩:=zBu e;obtain ⟨m',rfl,h3⟩:=h.back hc hm h1 h2;refine ⟨m',rfl,h3,?_⟩;rw [zD0 hc (m'+1) h hm hm,zD0 hc m' h3 (by omega) (by omega)];simp [nf,e]
theorem zC6 {c:List (List Int)} {v:List Int} (e:zAJ v=none):nf c 30 v=[]:=by simp [nf,e]
theorem zAa {c:List (List Int)} (hc:CartanP c):∀{w:List Int},Lets c.length w→w.length≤30→Im c (zAF c w) w.length
 | [],_,_=>⟨by simp [zAF,act],[],fun i hi=>by simp at hi,rfl,fun k hk=>by simp [zAF,act,num,Cox.aW,Cox.one,hk]⟩
 | i::w,hw,hl=>by
  have h1:=zAa hc (w:=w) (fun x hx=>hw x (by simp [hx])) (by simp at hl; omega);have h2:=hw i (by simp);exact h1.step hc (by simp at hl; omega) (by omega)
theorem zCP {c:List (List Int)} (hc:CartanP c) {w:List Int} (hw:Lets c.length w) (hl:w.length≤30):(zAD c w).length≤w.length:=by
 unfold zAD;rw [zD0 hc _ (zAa hc hw hl) hl hl];exact zLc hc _
theorem zSh {c:List (List Int)} (h:isC c=true):rho c=List.replicate c.length 1:=by unfold rho; rw [if_pos h]
section
variable {w:World} {ops:Array Oper} {rest:List Oper} {o:Oper} {a:Act} {Q:Exit→Act→World→Prop}
theorem FI.of_rowB {w':World} {B:Nat} {v:Value} {l:List Int} {n:Nat} {xs:List Value} (h:w'.ownsRow B 3 1 v n xs) (hn:n=l.length) (hx:xs=l.map (Value.int .i64)):FI (Bt B w'.heap.size) w' v l:=by
 subst hn;subst hx;refine ⟨zBp h (Nat.zero_le _),fun b hb=>?_⟩;obtain ⟨h1,h2⟩:=h.lt b hb;exact ⟨h1,h2⟩
theorem zJ2 {S:Nat→Prop} {B:Nat} (hgd:o.guard=none) (s x:Operand)
  (ho:o.op=.call { callee:=.builtin .append,args:=#[s,x],argTypes:=#[29,29] })
  {v:Value} {l l2:List Int} (hs:a.eval s=v) (hf:FI (Bt B w.heap.size) w v l) (hB:B≤w.heap.size)
  {sa:Option Addr} {m c:Nat} (hx:a.eval x=.slice sa m c) (hr:RI S w (.slice sa m c) l2) (hlen:l.length+l2.length≤67108864)
  (h:∀v' w',FI (Bt B w'.heap.size) w' v' (l++l2)→Below B w w'→w.grownBy w' v.ownBlock→wpList Tryz.prog ops Q rest (a.put o.dst v') w'):wpList Tryz.prog ops Q (o::rest) a w:=by
 obtain ⟨i0,hi,hz0,hz1,hz2⟩:=info_parts zA8;obtain ⟨hown,hS⟩:=hf;obtain ⟨a',cap',hv,hcap,hcase⟩:=hr;simp only [Value.slice.injEq] at hv;obtain ⟨rfl,rfl,rfl⟩:=hv;have hown':w.ownsRow B 3 1 v l.length (l.map (Value.int .i64)):=by
  refine ⟨hown.1,?_⟩;rcases hown.2 with h | ⟨g,cap,cur,hv,_,r⟩
  ·exact .inl h
  ·exact .inr ⟨g,cap,cur,hv,(hS g (by rw [hv]; rfl)).1,r⟩
 have fin:∀v' w',w'.ownsRow B 3 1 v' (l.length+l2.length) (l.map (Value.int .i64)++l2.map (Value.int .i64))→w.grownBy w' v.ownBlock→wpList Tryz.prog ops Q rest (a.put o.dst v') w':=by
  intro v' w' h1 h2;have hb':Below B w w':=(Below.refl B w).grown h2 hB (fun k hk=>(hS k hk).1);exact h v' w' (FI.of_rowB h1 (by simp) (by simp)) hb' h2
 cases sa with
 | none =>
  have h0:l2=[]:=by
   rcases hcase with h | ⟨b,o,ha,_⟩
   ·exact h
   ·cases ha
  subst h0;have hrun:=zBw (w:=w) B 29 o.type 3 i0 1 Tryz.underlying29 hi v l.length c _ hown';have fin':=fin v w (by simpa using hown') (World.grownBy.refl _ _);clear fin h hS hown;refine wpList_plain hgd fun K hK=>?_;unfold Oper.wp;rw [show ([]:List Int).length=0 from rfl] at hx;simp [execOp,ho,resolve,invoke,builtin,hs,hx,hrun,Result.andThen];exact hK _ _ fin'
 | some ad =>
  refine wpList_append_own w hgd s x 29 ho B 3 i0 (.int .i64 0) 1 8 Tryz.underlying29 hi hz0 hz1 hz2 rfl (by decide) v l.length (l.map (Value.int .i64)) hs hown' ad l2.length c (l2.map (Value.int .i64)) hx (by simp) ?_ ?_ ?_ ?_ hB (fun v' w' h1 h2 _=>fin v' w' h1 h2)
  ·intro j u hj;rcases hcase with h | ⟨b,o,ha,_,_,hc⟩
   ·subst h; simp at hj
   ·simp only [Option.some.injEq] at ha;subst ha;rw [List.getElem?_map] at hj;obtain ⟨x,hx1,hx2⟩:=Option.map_eq_some_iff.1 hj;obtain ⟨r,h1,h2⟩:=hc j x hx1;have hadd:(⟨b,o,none⟩:Addr).add j=⟨b,o+j,none⟩:=by unfold Addr.add; split <;> simp_all
    rw [hadd,h1,<-hx2];exact congrArg some h2
  ·intro u hu;obtain ⟨x,_,rfl⟩:=List.mem_map.1 hu;rfl
  ·unfold maxLen; omega
  ·omega
end
end Go.Proofs.YtlgcdacpjcnjgaaGreatDoor
namespace Go.Proofs.YtlgcdacpjcnjgaaGreatDoor
open Go.RowKit
set_option maxRecDepth 20000
set_option maxHeartbeats 8000000
theorem zFf {v:List Int} {k:Nat} {x:Int} (h:v[k]? = some x) (hx:¬x<0):zAJ (v.drop k)=(zAJ (v.drop (k+1))).map (· + 1):=by
 rw [zAK h]; simp [zAJ,hx]
theorem zGM {v:List Int} {k:Nat} {x:Int} (h:v[k]? = some x) (hx:x<0):zAJ (v.drop k)=some 0:=by
 rw [zAK h]; simp [zAJ,hx]
def lenV:Value→Nat
 | .slice _ n _=>n
 | _=>0
def fd (v:List Int):Int:=match zAJ v with
 | none=>-1
 | some i=>i
theorem zFv {S:Nat→Prop} {v:Value} {l:List Int} {w:World} (h:RI S w v l) (hl:l.length≤16777216) :
  Calls Tryz.prog 112 #[v] w fun e w'=>e=.returned (.int .i64 (fd l))∧w'=w:=by
 obtain ⟨a,cap,rfl⟩:=h.form;have HR:Hid ((zAJ (l.drop 0)).map (· + 0)=zAJ l):=zTD (by simp);have HE:Hid (zAJ (l.drop l.length)=none):=zTD (by simp [zAJ]);have HF:Hid (∀i,zAJ l=some i→fd l=i):=zTD (by intro i h; simp [fd,h]);have HG:Hid (zAJ l=none→fd l = -1):=zTD (by intro h; simp [fd,h]);generalize fd l=res at *;generalize hn:l.length=n at *;have HN:=zTD hn;clear hn;go_enter Tryz.func112,Tryz.ntmps112
 go_wp2_with fail
 go_loop [7] (fun j=>∃(k:Nat),k≤n∧j=.int .i64 k∧Hid ((zAJ (l.drop k)).map (· + k)=zAJ l)) (fun j=>n-(intOf j).toNat)
 case atStart=>exact ⟨0,Nat.zero_le _,rfl,HR⟩
 case round =>
  obtain ⟨k,hk,rfl,HK⟩:=hrel;by_cases hlt:k<n
  ·obtain ⟨b,o,x,rfl,hc,hx⟩:=h.at hlt;by_cases hx0:x<0
   ·have e0:Hid (res=(k:Int)):=zTD (HF.out k (by rw [<-HK.out,zGM hx.out hx0]; simp));go_wp2_with fail
    go_ret
    exact ⟨zAR e0.out.symm,rfl⟩
   ·have HK2:Hid ((zAJ (l.drop (k+1))).map (· + (k+1))=zAJ l):=zTD (by
     rw [<-HK.out,zFf hx.out hx0,Option.map_map];congr 1;funext j;simp only [Function.comp_apply];omega)
    go_wp2_with fail
    go_round
    case rel=>exact ⟨k+1,by omega,by go_num,HK2⟩
    case measure=>simp [intOf]; omega
  ·have hkn:k=n:=by omega
   have e0:Hid (res = -1):=zTD (HG.out (by rw [<-HK.out,hkn,HE.out]; rfl));go_wp2_with fail
   go_ret
   exact ⟨zAR e0.out.symm,rfl⟩
theorem zEu {S S':Nat→Prop} {u v:Value} {c:List (List Int)} {l:List Int} {w:World} (h:RII S w u c) (h':RI S' w v l) (hc:CartanP c) (hle:Lets c.length l) (hl':l.length≤16777216) :
  Calls Tryz.prog 70 #[u,v] w fun e w'=>∃r,e=.returned r∧FI (New w w') w' r (zAF c l)∧Below w.heap.size w w':=by
 have hq:=hc.sq;have hn4:=hc.le;obtain ⟨a,cap,rfl⟩:=h.form;have HI:Hid (act c l (List.replicate c.length 1)=zAF c l):=zTD rfl;generalize hn:c.length=n at *;have HH:=zTD hq;have HLE:=zTD hle;clear hq hn hle;go_enter Tryz.func70,Tryz.ntmps70
 go_wp2_with fail
 refine (zJF n (by omega)).mono ?_;rintro e w2 ⟨r2,rfl,f2,b2⟩;go_wp2_with fail
 refine (zLw (h.below b2) (h'.below b2) f2.reads HH.out HLE.out (by simp) (by omega) hl').mono ?_;rintro e w3 ⟨r3,rfl,f3,b3⟩;go_wp2_with fail
 go_ret
 rw [<-HI.out];exact ⟨_,rfl,f3.mono (fun b hb=>⟨Nat.le_trans b2.size hb.1,hb.2⟩),zAC.step b2 b3⟩
theorem zGa {S S':Nat→Prop} {u v:Value} {c:List (List Int)} {l:List Int} {w:World} {m:Nat} (h:RII S w u c) (h':RI S' w v l) (hc:CartanP c) (him:Im c l m) (hm:m≤30) :
  Calls Tryz.prog 69 #[u,v] w fun e w'=>∃r,e=.returned r∧FI (New w w') w' r (nf c 30 l)∧Below w.heap.size w w':=by
 have h:=h.old;have hn4:=hc.le;have hlen:=him.len;obtain ⟨a,cap,rfl⟩:=h.form;obtain ⟨a',cap',rfl⟩:=h'.form;have HQ:=zTD hc.sq;have HC:=zTD hc;have HIM:=zTD him;rw [hlen] at h' ⊢;have HN:=zTD hlen;clear hc him hlen;go_enter Tryz.func69,Tryz.ntmps69
 obtain ⟨f1,b1⟩:=zAN (w:=w) (Below.refl _ w) rfl;go_wp2_with (at_builtin; go_must (refine zAL (W:=w) rfl _ _ rfl rfl f1 b1 rfl (h'.below b1) ?_ ?_))
 ·have:=HN.out; simp; omega
 ·intro v1 w2 f2 b2 _;clear b1 f1 h';go_wp2_with fail
  obtain ⟨w3,hw3⟩:∃w3,w3=w2.alloc (.cells #[] 3):=⟨_,rfl⟩;obtain ⟨f3,b3⟩:=zAN (Below.refl _ w2) hw3;rw [<-hw3];clear hw3;have f2:=f2.below b3;have hD:∀b,Bt 0 w.heap.size b→¬New w w2 b:=fun b hb hb'=>by have:=hb.2; have:=hb'.1; omega
  have hD2:∀(W:World) b,Bt w2.heap.size W.heap.size b→¬New w w2 b:=fun W b hb hb'=>by have:=hb.1; have:=hb'.2; omega
  have b03:=zAC.step b2 b3;have hs2:w.heap.size≤w2.heap.size:=b2.size;have hs3:w2.heap.size≤w3.heap.size:=b3.size;have HR0:Hid ([]++nf c 30 l=nf c 30 l):=zTD rfl;go_loopw [5,6] (fun z y wr=>∃(acc x:List Int) (m:Nat),FI (New w w2) wr v1 x∧FI (Bt w2.heap.size wr.heap.size) wr z acc∧Hid (Im c x m)∧acc.length+m≤30∧Hid (acc++nf c 30 x=nf c 30 l)∧w2.heap.size≤wr.heap.size∧Below w.heap.size w wr) (fun z _ _=>31-lenV z)
  case atStart=>exact ⟨[],l,m,f2,f3,HIM,by simpa using hm,HR0,hs3,b03⟩
  case round =>
   obtain ⟨acc,x,m,hf,hz,HI,hlen,HR,hs,hb⟩:=hrel;have hxl:x.length=c.length:=HI.out.len;obtain ⟨az,capz,rfl⟩:=hz.form;go_wp2_with fail
   refine (zFv hf.reads (by omega)).mono ?_;rintro e w4 ⟨rfl,rfl⟩;cases e:zAJ x with
   | none =>
    have e1:Hid (acc=nf c 30 l):=zTD (by rw [<-HR.out,zC6 e,List.append_nil]);have e2:fd x = -1:=by unfold fd; rw [e]
    rw [e2];go_wp2_with fail
    go_ret
    rw [<-e1.out];exact ⟨_,rfl,hz.mono (fun b hb'=>⟨by have:=hb'.1; omega,hb'.2⟩),hb⟩
   | some i =>
    have e2:fd x=(i:Int):=by unfold fd; rw [e]
    have hi:i<c.length:=by have:=zB1 e; omega
    obtain ⟨m',hm',him',hnf⟩:=zCC HC.out HI.out (by omega) e;have HI2:=zTD him';have HR2:Hid ((acc++[(i:Int)])++nf c 30 (refl c i x)=nf c 30 l):=zTD (by rw [<-HR.out,hnf,List.append_assoc]; rfl);clear him' hnf;rw [e2];have bb:=(Below.refl w4.heap.size w4).alloc (zTI _) (.cells #[.int .i64 i] 3);have hz2:FI (Bt w2.heap.size (w4.alloc (.cells #[.int .i64 i] 3)).heap.size) (w4.alloc (.cells #[.int .i64 i] 3)) _ acc:=(hz.below bb).mono (fun b hb'=>⟨hb'.1,Nat.lt_of_lt_of_le hb'.2 bb.size⟩);have hi0:¬(i:Int)<0:=by omega
    go_wp2_with (at_builtin; go_must (refine zJ2 (B:=w2.heap.size) rfl _ _ rfl rfl hz2 (Nat.le_trans hs bb.size) rfl (RI.one w4 i) ?_ ?_))
    ·simp; omega
    ·intro v' w5 f5 b5 _;have b45:Below w2.heap.size w4 w5:=(bb.mono hs).trans b5;have hb5:Below w.heap.size w w5:=hb.trans (b45.mono hs2);have hf5:FI (New w w2) w5 v1 x:=hf.keep (fun b hb'=>b45.block b (hf.2 b hb').2);go_wp2_with fail
     refine (zDA (h.below hb5) hf5 hD i hi HQ.out hxl (by omega)).mono ?_;rintro e w6 ⟨rfl,f6,o6⟩;have f7:=f5.only o6 (hD2 w5);obtain ⟨a7,cap7,rfl⟩:=f7.form;go_wp2_with fail
     go_roundw
     case rel=>exact ⟨acc++[(i:Int)],refl c i x,m',f6,by rw [o6.size]; rw [List.length_append] at f7; exact f7,HI2,by simp; omega,HR2,by rw [o6.size]; exact Nat.le_trans hs b45.size,hb5.trans (o6.below (fun b hb'=>hb'.1))⟩
     case measure=>simp [lenV]; omega
theorem zFm {S S':Nat→Prop} {u v:Value} {c:List (List Int)} {l:List Int} {w:World} (h:RII S w u c) (h':RI S' w v l) (hc:CartanP c) (hle:Lets c.length l) (hl':l.length≤30) :
  Calls Tryz.prog 32 #[u,v] w fun e w'=>∃r,e=.returned r∧FI (New w w') w' r (zAD c l)∧Below w.heap.size w w':=by
 have HI:Hid (nf c 30 (zAF c l)=zAD c l):=zTD rfl;have HIM:=zTD (zAa hc hle hl');have HC:=zTD hc;have HLE:=zTD hle;clear hc hle;go_enter Tryz.func32,Tryz.ntmps32
 go_wp2_with fail
 refine (zEu h h' HC.out HLE.out (by omega)).mono ?_;rintro e w2 ⟨r2,rfl,f2,b2⟩;go_wp2_with fail
 refine (zGa (h.below b2) f2.reads HC.out HIM.out hl').mono ?_;rintro e w3 ⟨r3,rfl,f3,b3⟩;go_wp2_with fail
 go_ret
 rw [<-HI.out];exact ⟨_,rfl,f3.mono (fun b hb=>⟨Nat.le_trans b2.size hb.1,hb.2⟩),zAC.step b2 b3⟩
theorem zDj {S S':Nat→Prop} {u z:Value} {c:List (List Int)} {l:List Int} {w:World} (h:RII S w u c) (h':RI S' w z l) (hc:CartanP c) (hle:Lets c.length l) (hl:total c≤16777216) (hl':l.length≤16777216) :
  Calls Tryz.prog 77 #[u,z] w fun e w'=>∃r,e=.returned r∧FI (New w w') w' r (zAF c l)∧Below w.heap.size w w':=by
 have hcl:=hc.le;obtain ⟨a,cap,rfl⟩:=h.form;obtain ⟨a',cap',rfl⟩:=h'.form;have HA0:Hid (act c (l.drop l.length) (List.replicate c.length 1)=rho c):=zTD (by rw [zSh (zAS.2 hc)]; simp [act]);have HR:Hid (act c (l.drop 0) (List.replicate c.length 1)=zAF c l):=zTD (by simp [zAF]);have HSq:=zTD hc.sq;have HLE:=zTD hle;generalize hm:l.length=m at *;have HM:=zTD hm;clear hm hle;generalize hn:c.length=n at *;have HN:=zTD hn;clear hn hc;go_enter Tryz.func77,Tryz.ntmps77
 go_wp2_with fail
 refine (zNH h hl).mono ?_;rintro e w2 ⟨v1,rfl,f2,b2⟩;rw [<-HA0.out] at f2;go_wp2_with fail
 go_loopw [5,6] (fun z j wr=>∃(k:Nat),k≤m∧j=.int .i64 ((k:Int)-1)∧FI (New w wr) wr z (act c (l.drop k) (List.replicate n 1))∧Below w.heap.size w wr) (fun _ j _=>(intOf j+1).toNat)
 case atStart=>exact ⟨m,zTI _,by go_num,f2,b2⟩
 case round =>
  obtain ⟨k,hk,rfl,hf,hb⟩:=hrel;rcases k with _ | k
  ·go_wp2_with fail
   go_ret
   rw [<-HR.out];exact ⟨_,rfl,hf,hb⟩
  ·obtain ⟨b,o,x,rfl,hc,hx⟩:=((h'.below hb)).at (j:=k) (by omega);have e1:((k+1:Nat):Int)-1=(k:Int):=by omega
   rw [e1];obtain ⟨i,rfl,hi⟩:=zKd HLE.out hx.out;have hi:i<n:=hi;have hlen:(act c (l.drop (k+1)) (List.replicate n 1)).length=n:=by rw [zD8]; simp
   have HST:Hid (act c (l.drop k) (List.replicate n 1)=refl c i (act c (l.drop (k+1)) (List.replicate n 1))):=zTD (by rw [zIN hx.out]; rfl);go_wp2_with fail
   refine (zFn (h.below hb) hf.reads i hi HSq.out hlen (by omega)).mono ?_;rintro e w4 ⟨r,rfl,f4,b4⟩;go_wp2_with fail
   go_roundw
   case rel=>exact ⟨k,by omega,by go_num,by rw [HST.out]; exact f4.mono (fun b hb'=>⟨by have:=hb.size; have:=hb'.1; omega,hb'.2⟩),zAC.step hb b4⟩
   case measure=>simp [intOf]
theorem zOh {S S':Nat→Prop} {u v:Value} {c:List (List Int)} {l:List Int} {w:World} {m:Nat} (h:RII S w u c) (h':RI S' w v l) (hc:CartanP c) (him:Im c l m) (hm:m≤30) :
  Calls Tryz.prog 76 #[u,v] w fun e w'=>∃r,e=.returned r∧FI (New w w') w' r (nf c 30 l)∧Below w.heap.size w w':=by
 have hn4:=hc.le;have h':=h'.old;obtain ⟨a,cap,rfl⟩:=h.form;have HQ:=zTD hc.sq;have HC:=zTD hc;have HIM:=zTD him;have HR0:Hid ([]++nf c 30 l=nf c 30 l):=zTD rfl;clear hc him;go_enter Tryz.func76,Tryz.ntmps76
 go_wp2_with fail
 obtain ⟨w1,hw1⟩:∃w1,w1=w.alloc (.cells #[] 3):=⟨_,rfl⟩;obtain ⟨f1,b1⟩:=zAN (Below.refl _ w) hw1;rw [<-hw1];clear hw1;have h1:RI (fun b=>(Value.slice (some ⟨w.heap.size,0,none⟩) 0 0).ownBlock≠some b) w1 v l:=RL.mono (h'.below b1) (fun b hb e=>by have:=hb.2; simp [Value.ownBlock] at e; omega) (fun _ _ h=>h);go_loopw [1,5,6] (fun v z j wr=>∃(acc x:List Int) (m k:Nat),j=.int .i64 k∧k+m≤30∧acc.length=k∧RI (fun b=>z.ownBlock≠some b) wr v x∧FI (New w wr) wr z acc∧Hid (Im c x m)∧Hid (acc++nf c 30 x=nf c 30 l)∧Below w.heap.size w wr) (fun _ _ j _=>31-(intOf j).toNat)
 case atStart=>exact ⟨[],l,m,0,rfl,by omega,rfl,h1,f1,HIM,HR0,b1⟩
 case round =>
  obtain ⟨acc,x,m,k,rfl,hkm,hacc,hv,hz,HI,HR,hb⟩:=hrel;obtain ⟨av,capv,rfl⟩:=hv.form;have hxl:x.length=c.length:=HI.out.len;rw [hxl] at hv ⊢;have HF0:Hid ((zAJ (x.drop 0)).map (· + 0)=zAJ x):=zTD (by simp);have HE:Hid (zAJ (x.drop c.length)=none):=zTD (by rw [<-hxl]; simp [zAJ]);have HXL:=zTD hxl;clear hxl;go_wp2_with fail
  go_loop [7] (fun j=>∃(i:Nat),i≤c.length∧j=.int .i64 i∧Hid ((zAJ (x.drop i)).map (· + i)=zAJ x)) (fun j=>c.length-(intOf j).toNat)
  case atStart=>exact ⟨0,Nat.zero_le _,rfl,HF0⟩
  case round =>
   obtain ⟨i,hi,rfl,HK⟩:=hrel;by_cases hlt:i<c.length
   ·obtain ⟨b,o,y,rfl,hcy,hy⟩:=hv.at hlt;by_cases hy0:0<y
    ·have HK2:Hid ((zAJ (x.drop (i+1))).map (· + (i+1))=zAJ x):=zTD (by
      rw [<-HK.out,zFf hy.out (by omega),Option.map_map];congr 1;funext j;simp only [Function.comp_apply];omega)
     go_wp2_with fail
     go_round
     case rel=>exact ⟨i+1,by omega,by go_num,HK2⟩
     case measure=>simp [intOf]; omega
    ·have hyn:y<0:=by
      have:=HI.out.ne HC.out (zTF hy.out);omega
     have e:zAJ x=some i:=by rw [<-HK.out,zGM hy.out hyn]; simp
     obtain ⟨m',hm',him',hnf⟩:=zCC HC.out HI.out (by omega) e;have HI2:=zTD him';have HR2:Hid ((acc++[(i:Int)])++nf c 30 (refl c i x)=nf c 30 l):=zTD (by rw [<-HR.out,hnf,List.append_assoc]; rfl);clear him' hnf e;have hic:¬((i:Int)=(c.length:Int)):=by omega
     have bb:∀wr:World,Below wr.heap.size wr (wr.alloc (.cells #[.int .i64 i] 3)):=fun wr=>(Below.refl wr.heap.size wr).alloc (zTI _) _;go_wp2_with (at_builtin; go_must (refine zAL (W:=w) rfl _ _ rfl rfl (hz.grow (bb _)) (zAC.step hb (bb _)) rfl (RI.one _ i) ?_ ?_))
     ·omega
     ·intro v' w2 f3 b4 hg;have hsz:wr.heap.size≤w2.heap.size:=Nat.le_trans (bb wr).size hg.size;have hv2:RI Any w2 (.slice (some ⟨b,o,none⟩) c.length capv) x:=RI.any (RI.keep hv (fun d hd hl=>by
       rw [hg.block d (Nat.lt_of_lt_of_le hl (bb wr).size) (fun e=>hd e.symm)];exact (bb wr).block d hl))
      go_wp2_with fail
      refine (zFn (h.below b4) hv2 i hlt HQ.out HXL.out (by omega)).mono ?_;rintro e w4 ⟨r4,rfl,f4,b5⟩;have f5:=f3.grow b5;have hv4:RI (fun b=>v'.ownBlock≠some b) w4 r4 (refl c i x):=RL.mono f4.reads (fun b hb e=>by have:=(f3.2 b e).2; have:=hb.1; omega) (fun _ _ h=>h);go_wp2_with fail
      go_roundw
      case rel=>exact ⟨acc++[(i:Int)],refl c i x,m',k+1,by go_num,by omega,by simp; omega,hv4,f5,HI2,HR2,zAC.step b4 b5⟩
      case measure=>simp [intOf]; omega
   ·have hic:i=c.length:=by omega
    have e:zAJ x=none:=by rw [<-HK.out,hic,HE.out]; rfl
    have e1:Hid (acc=nf c 30 l):=zTD (by rw [<-HR.out,zC6 e,List.append_nil]);subst hic;go_wp2_with fail
    go_ret
    rw [<-e1.out];exact ⟨_,rfl,hz,hb⟩
theorem zEM {S S':Nat→Prop} {u v:Value} {c:List (List Int)} {l:List Int} {w:World} (h:RII S w u c) (h':RI S' w v l) (hc:CartanP c) (hle:Lets c.length l) (hl:total c≤16777216) (hl':l.length≤30) :
  Calls Tryz.prog 39 #[u,v] w fun e w'=>∃r,e=.returned r∧FI (New w w') w' r (zAD c l)∧Below w.heap.size w w':=by
 have HI:Hid (nf c 30 (zAF c l)=zAD c l):=zTD rfl;have HIM:=zTD (zAa hc hle hl');have HC:=zTD hc;have HLE:=zTD hle;clear hc hle;go_enter Tryz.func39,Tryz.ntmps39
 go_wp2_with fail
 refine (zDj h h' HC.out HLE.out hl (by omega)).mono ?_;rintro e w2 ⟨r2,rfl,f2,b2⟩;go_wp2_with fail
 refine (zOh (h.below b2) f2.reads HC.out HIM.out hl').mono ?_;rintro e w3 ⟨r3,rfl,f3,b3⟩;go_wp2_with fail
 go_ret
 rw [<-HI.out];exact ⟨_,rfl,f3.mono (fun b hb=>⟨Nat.le_trans b2.size hb.1,hb.2⟩),zAC.step b2 b3⟩
end Go.Proofs.YtlgcdacpjcnjgaaGreatDoor
