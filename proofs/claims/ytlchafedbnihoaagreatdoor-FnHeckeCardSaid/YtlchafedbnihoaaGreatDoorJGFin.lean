/- Cartan matrices: what words do to roots, coroots and weights; the signs of roots; exchange. Plain: no program. -/
import Derived.Test.YtlchafedbnihoaaGreatDoorJGCart
import Derived.KernelRfl
namespace Go.Proofs.YtlchafedbnihoaaGreatDoor.Cox
def dotN (f g:Nat→Int):Nat→Int
 | 0=>0
 | n+1=>dotN f g n+f n*g n
structure Car (n:Nat) (c:Nat→Nat→Int):Prop where
 diag:∀i,i<n→c i i=2
 off:∀i j,i<n→j<n→i≠j→-3≤c i j∧c i j≤0
 zero:∀i j,i<n→j<n→c i j=0→c j i=0
def tr (c:Nat→Nat→Int):Nat→Nat→Int:=fun i j=>c j i
theorem Car.tr {n:Nat} {c:Nat→Nat→Int} (h:Car n c):Car n (tr c):=⟨h.diag,fun i j hi hj hn=>h.off j i hj hi (fun e=>hn e.symm),fun i j hi hj=>h.zero j i hj hi⟩
def e (i:Nat):Nat→Int:=fun j=>if j=i then 1 else 0
def sR (n:Nat) (c:Nat→Nat→Int) (i:Nat) (r:Nat→Int):Nat→Int:=fun j=>r j-dotN (c i) r n*e i j
def sW (c:Nat→Nat→Int) (i:Nat) (m:Nat→Int):Nat→Int:=fun k=>m k-m i*c k i
def aR (n:Nat) (c:Nat→Nat→Int):List Nat→(Nat→Int)→(Nat→Int)
 | [],r=>r
 | i::w,r=>sR n c i (aR n c w r)
def aW (c:Nat→Nat→Int):List Nat→(Nat→Int)→(Nat→Int)
 | [],m=>m
 | i::w,m=>sW c i (aW c w m)
def Lets (n:Nat) (w:List Nat):Prop:=∀i∈w,i<n
theorem zBk (f g h:Nat→Int) (a b:Int):∀n,dotN f (fun k=>a*g k+b*h k) n=a*dotN f g n+b*dotN f h n
 | 0=>by simp [dotN]
 | n+1=>by
  simp only [dotN,zBk f g h a b n];rw [Int.mul_add,Int.mul_add,Int.mul_add,Int.mul_left_comm (f n) a,Int.mul_left_comm (f n) b];omega
theorem dotN_comm (f g:Nat→Int):∀n,dotN f g n=dotN g f n
 | 0=>rfl
 | n+1=>by simp only [dotN,dotN_comm f g n,Int.mul_comm]
theorem zB4 (f g h:Nat→Int) (b:Int) (n:Nat):dotN f (fun k=>g k-b*h k) n=dotN f g n-b*dotN f h n:=by
 have:=zBk f g h 1 (-b) n;rw [show (fun k=>g k-b*h k)=(fun k=>1*g k + -b*h k) from funext fun k=>by rw [Int.one_mul,Int.neg_mul]; omega,this,Int.one_mul,Int.neg_mul];omega
theorem zIC (f:Nat→Int) (i:Nat):∀n,n≤i→dotN f (e i) n=0
 | 0,_=>rfl
 | n+1,h=>by
  simp only [dotN,zIC f i n (by omega),e];rw [if_neg (by omega)];simp
theorem dotN_e (f:Nat→Int) (i:Nat):∀n,i<n→dotN f (e i) n=f i
 | 0,h=>by omega
 | n+1,h=>by
  simp only [dotN];by_cases hn:n=i
  ·subst hn;rw [zIC f n n (zNl _)];simp [e]
  ·rw [dotN_e f i n (by omega)];have:e i n=0:=by unfold e; rw [if_neg hn]
   simp [this]
theorem dotN_congr {f g h:Nat→Int}:∀{n:Nat},(∀k,k<n→g k=h k)→dotN f g n=dotN f h n
 | 0,_=>rfl
 | n+1,hh=>by
  simp only [dotN,dotN_congr (n:=n) (fun k hk=>hh k (by omega)),hh n (by omega)]
theorem zNN (n:Nat) (c:Nat→Nat→Int) (i:Nat) (f g:Nat→Int) (a b:Int):sR n c i (fun k=>a*f k+b*g k)=fun k=>a*sR n c i f k+b*sR n c i g k:=by
 funext k;simp only [sR,zBk];rw [Int.mul_sub,Int.mul_sub,Int.add_mul,Int.mul_assoc,Int.mul_assoc];omega
theorem zDF (n:Nat) (c:Nat→Nat→Int) (f g:Nat→Int) (a b:Int):∀w,aR n c w (fun k=>a*f k+b*g k)=fun k=>a*aR n c w f k+b*aR n c w g k
 | []=>rfl
 | i::w=>by simp only [aR,zDF n c f g a b w,zNN]
theorem zMs (n:Nat) (c:Nat→Nat→Int) (f g:Nat→Int) (b:Int) (w:List Nat):aR n c w (fun k=>f k-b*g k)=fun k=>aR n c w f k-b*aR n c w g k:=by
 have:=zDF n c f g 1 (-b) w;rw [show (fun k=>f k-b*g k)=(fun k=>1*f k + -b*g k) from funext fun k=>by rw [Int.one_mul,Int.neg_mul]; omega,this];funext k;rw [Int.one_mul,Int.neg_mul]; omega
theorem zNO (c:Nat→Nat→Int) (i:Nat) (f g:Nat→Int) (a b:Int):sW c i (fun k=>a*f k+b*g k)=fun k=>a*sW c i f k+b*sW c i g k:=by
 funext k;simp only [sW];rw [Int.mul_sub,Int.mul_sub,Int.add_mul,Int.mul_assoc,Int.mul_assoc];omega
theorem zJN (c:Nat→Nat→Int) (f g:Nat→Int) (a b:Int):∀w,aW c w (fun k=>a*f k+b*g k)=fun k=>a*aW c w f k+b*aW c w g k
 | []=>rfl
 | i::w=>by simp only [aW,zJN c f g a b w,zNO]
theorem zMt (c:Nat→Nat→Int) (f g:Nat→Int) (b:Int) (w:List Nat):aW c w (fun k=>f k-b*g k)=fun k=>aW c w f k-b*aW c w g k:=by
 have:=zJN c f g 1 (-b) w;rw [show (fun k=>f k-b*g k)=(fun k=>1*f k + -b*g k) from funext fun k=>by rw [Int.one_mul,Int.neg_mul]; omega,this];funext k;rw [Int.one_mul,Int.neg_mul]; omega
theorem zA3 (n:Nat) (c:Nat→Nat→Int) (r:Nat→Int) (w':List Nat):∀w,aR n c (w++w') r=aR n c w (aR n c w' r)
 | []=>rfl
 | i::w=>by simp only [List.cons_append,aR,zA3 n c r w' w]
theorem zB9 (c:Nat→Nat→Int) (r:Nat→Int) (w':List Nat):∀w,aW c (w++w') r=aW c w (aW c w' r)
 | []=>rfl
 | i::w=>by simp only [List.cons_append,aW,zB9 c r w' w]
section
variable {n:Nat} {c:Nat→Nat→Int}
theorem zHd (h:Car n c) {i:Nat} (hi:i<n) (r:Nat→Int):sR n c i (sR n c i r)=r:=by
 funext k;have:dotN (c i) (sR n c i r) n = - dotN (c i) r n:=by
  unfold sR;rw [zB4,dotN_e _ _ _ hi,h.diag i hi];omega
 show sR n c i r k-dotN (c i) (sR n c i r) n*e i k=r k;rw [this,Int.neg_mul];simp only [sR];omega
theorem sW_two (h:Car n c) {i:Nat} (hi:i<n) (m:Nat→Int):sW c i (sW c i m)=m:=by
 funext k;simp only [sW,h.diag i hi];rw [show m i-m i*2 = - m i by omega,Int.neg_mul];omega
def bil (n:Nat) (c:Nat→Nat→Int) (x r:Nat→Int):Int:=dotN x (fun i=>dotN (c i) r n) n
theorem zLe {i:Nat} (hi:i<n) (x r:Nat→Int):bil n c (sR n (tr c) i x) r=bil n c x (sR n c i r):=by
 have h1:bil n c (sR n (tr c) i x) r=bil n c x r-dotN (tr c i) x n*dotN (c i) r n:=by
  unfold bil;rw [dotN_comm];unfold sR;rw [zB4,dotN_comm,dotN_e _ _ _ hi]
 have h2:bil n c x (sR n c i r)=bil n c x r-dotN (c i) r n*dotN x (fun k=>c k i) n:=by
  unfold bil sR;rw [show (fun k=>dotN (c k) (fun j=>r j-dotN (c i) r n*e i j) n)=(fun k=>dotN (c k) r n-dotN (c i) r n*c k i) from funext fun k=>by rw [zB4,dotN_e _ _ _ hi],zB4]
 rw [h1,h2,Int.mul_comm,dotN_comm x];rfl
theorem zCP (h:Car n c) (x r:Nat→Int):∀{w:List Nat},Lets n w→bil n c (aR n (tr c) w x) (aR n c w r)=bil n c x r
 | [],_=>rfl
 | i::w,hw=>by
  have hi:i<n:=hw i (by simp);simp only [aR];rw [zLe hi,zHd h hi];exact zCP h x r fun j hj=>hw j (by simp [hj])
theorem zC1 {i j:Nat} (hi:i<n) (hj:j<n):bil n c (e i) (e j)=c i j:=by
 unfold bil;rw [dotN_comm,dotN_e _ _ _ hi,dotN_e _ _ _ hj]
theorem zJU {i:Nat} (hi:i<n) (r:Nat→Int):bil n c (e i) r=dotN (c i) r n:=by
 unfold bil;rw [dotN_comm,dotN_e _ _ _ hi]
theorem wt_adj {i:Nat} (x m:Nat→Int) (hi:i<n):dotN (sR n (tr c) i x) m n=dotN x (sW c i m) n:=by
 have h1:dotN (sR n (tr c) i x) m n=dotN x m n-dotN (tr c i) x n*m i:=by
  rw [dotN_comm];unfold sR;rw [zB4,dotN_comm,dotN_e _ _ _ hi]
 have h2:dotN x (sW c i m) n=dotN x m n-m i*dotN x (fun k=>c k i) n:=by
  unfold sW;rw [zB4]
 rw [h1,h2,Int.mul_comm,dotN_comm x (fun k=>c k i)];rfl
theorem zHp (h:Car n c) (x m:Nat→Int):∀{w:List Nat},Lets n w→dotN (aR n (tr c) w x) (aW c w m) n=dotN x m n
 | [],_=>rfl
 | i::w,hw=>by
  have hi:i<n:=hw i (by simp);simp only [aR,aW];rw [wt_adj _ _ hi,sW_two h hi];exact zHp h x m fun j hj=>hw j (by simp [hj])
def wt (n:Nat) (c:Nat→Nat→Int) (r:Nat→Int):Nat→Int:=fun k=>dotN (c k) r n
theorem wt_s {i:Nat} (hi:i<n) (r:Nat→Int):wt n c (sR n c i r)=sW c i (wt n c r):=by
 funext k;unfold wt sW sR;rw [zB4,dotN_e _ _ _ hi]
theorem wt_a (r:Nat→Int):∀{w:List Nat},Lets n w→wt n c (aR n c w r)=aW c w (wt n c r)
 | [],_=>rfl
 | i::w,hw=>by
  have hi:i<n:=hw i (by simp);simp only [aR,aW];rw [wt_s hi,wt_a r fun j hj=>hw j (by simp [hj])]
structure Eqv (n:Nat) (c:Nat→Nat→Int) (w w':List Nat):Prop where
 r:∀r,aR n c w r=aR n c w' r
 x:∀x,aR n (tr c) w x=aR n (tr c) w' x
 m:∀m,aW c w m=aW c w' m
theorem Eqv.refl (w:List Nat):Eqv n c w w:=⟨fun _=>rfl,fun _=>rfl,fun _=>rfl⟩
theorem Eqv.symm {a b:List Nat} (h:Eqv n c a b):Eqv n c b a:=⟨fun r=>(h.r r).symm,fun r=>(h.x r).symm,fun r=>(h.m r).symm⟩
theorem Eqv.trans {a b d:List Nat} (h:Eqv n c a b) (k:Eqv n c b d):Eqv n c a d:=⟨fun r=>(h.r r).trans (k.r r),fun r=>(h.x r).trans (k.x r),fun r=>(h.m r).trans (k.m r)⟩
theorem Eqv.app {a b a' b':List Nat} (h:Eqv n c a b) (k:Eqv n c a' b'):Eqv n c (a++a') (b++b') :=
 ⟨fun r=>by rw [zA3,zA3,h.r,k.r],fun r=>by rw [zA3,zA3,h.x,k.x],fun r=>by rw [zB9,zB9,h.m,k.m]⟩
theorem Eqv.two (h:Car n c) {i:Nat} (hi:i<n):Eqv n c [i,i] []:=⟨fun r=>zHd h hi r,fun r=>zHd h.tr hi r,fun r=>sW_two h hi r⟩
theorem zJc (h:Car n c) {y:List Nat} {s k:Nat} (hy:Lets n y) (hs:s<n) (hk:k<n) (h1:aR n c y (e s)=e k) (h2:aR n (tr c) y (e s)=e k) (r:Nat→Int):aR n c (y++[s]) r=aR n c (k::y) r:=by
 rw [zA3];show aR n c y (sR n c s r)=sR n c k (aR n c y r);unfold sR;rw [zMs,h1,<-zJU hk,<-zJU hs,<-h2,zCP h _ _ hy]
theorem zM9 (h:Car n c) {y:List Nat} {s k:Nat} (hy:Lets n y) (hs:s<n) (hk:k<n) (h1:aR n c y (e s)=e k) (h2:aR n (tr c) y (e s)=e k) (m:Nat→Int):aW c (y++[s]) m=aW c (k::y) m:=by
 rw [zB9];show aW c y (sW c s m)=sW c k (aW c y m);have e1:∀(i:Nat) (hi:i<n),(fun a=>c a i)=wt n c (e i):=fun i hi=>funext fun a=>by unfold wt; rw [dotN_e _ _ _ hi]
 have e2:∀(i:Nat) (hi:i<n) (v:Nat→Int),v i=dotN (e i) v n:=fun i hi v=>by rw [dotN_comm,dotN_e _ _ _ hi]
 have e3:m s=aW c y m k:=by rw [e2 s hs m,e2 k hk (aW c y m),<-h2,zHp h _ _ hy]
 unfold sW;have e4:=zMt c m (fun a=>c a s) (m s) y;rw [e4,e1 s hs,<-wt_a _ hy,h1,<-e1 k hk,e3]
theorem comm (h:Car n c) {y:List Nat} {s k:Nat} (hy:Lets n y) (hs:s<n) (hk:k<n) (h1:aR n c y (e s)=e k) (h2:aR n (tr c) y (e s)=e k):Eqv n c (y++[s]) (k::y) :=
 ⟨zJc h hy hs hk h1 h2,zJc h.tr hy hs hk h2 h1,zM9 h hy hs hk h1 h2⟩
def Pos (n:Nat) (r:Nat→Int):Prop:=∀k,k<n→0≤r k
def Neg (n:Nat) (r:Nat→Int):Prop:=∀k,k<n→r k≤0
def PosA (n:Nat) (c:Nat→Nat→Int) (w:List Nat) (s:Nat):Prop:=Pos n (aR n c w (e s))∧Pos n (aR n (tr c) w (e s))
def NegA (n:Nat) (c:Nat→Nat→Int) (w:List Nat) (s:Nat):Prop:=Neg n (aR n c w (e s))∧Neg n (aR n (tr c) w (e s))
def Coh (n:Nat) (c:Nat→Nat→Int) (w:List Nat) (s:Nat):Prop:=PosA n c w s∨NegA n c w s
theorem zCq {j:Nat} (hj:n≤j) (r:Nat→Int):∀{w:List Nat},Lets n w→aR n c w r j=r j
 | [],_=>rfl
 | i::w,hw=>by
  have hi:i<n:=hw i (by simp);have:e i j=0:=by unfold e; rw [if_neg (by omega)]
  simp only [aR,sR,this,Int.mul_zero,Int.sub_zero];exact zCq hj r fun j hj=>hw j (by simp [hj])
theorem zBw {k:Nat} {r:Nat→Int} (h1:Pos n r) (h2:Neg n (sR n c k r)) (h0:∀j,n≤j→r j=0):r=fun j=>r k*e k j:=by
 funext j;by_cases hjk:j=k
 ·subst hjk; simp [e]
 ·have e0:e k j=0:=by unfold e; rw [if_neg hjk]
  rw [e0,Int.mul_zero];by_cases hj:j<n
  ·have a1:=h1 j hj;have a2:=h2 j hj;simp only [sR,e0,Int.mul_zero,Int.sub_zero] at a2;omega
  ·exact h0 j (by omega)
theorem zEP {s:Nat} (hs:s<n) {j:Nat} (hj:n≤j):e s j=0:=by unfold e; rw [if_neg (by omega)]
theorem dotN_scale (f g:Nat→Int) (a:Int) (n:Nat):dotN f (fun k=>a*g k) n=a*dotN f g n:=by
 have:=zBk f g g a 0 n;simpa using this
theorem zDw (x r:Nat→Int) (a b:Int):bil n c (fun j=>a*x j) (fun j=>b*r j)=a*b*bil n c x r:=by
 unfold bil;rw [dotN_comm,dotN_scale,dotN_comm];rw [show (fun i=>dotN (c i) (fun j=>b*r j) n)=(fun i=>b*dotN (c i) r n) from funext fun i=>dotN_scale _ _ _ _,dotN_scale,Int.mul_assoc]
theorem zCt (h:Car n c) {s:Nat} (hs:s<n):∀{w:List Nat},Lets n w→(∀y,y.length<w.length→Lets n y→Coh n c y s)→NegA n c w s→∃w',Lets n w'∧w'.length+1=w.length∧Eqv n c (w++[s]) w'
 | [],_,_,hn=>by
  have:=hn.1 s hs;simp [aR,e] at this
 | k::y,hw,hc,hn=>by
  have hk:k<n:=hw k (by simp);have hy:Lets n y:=fun j hj=>hw j (by simp [hj]);rcases hc y (by simp) hy with hp | hn'
  ·have hr:=zBw hp.1 hn.1 (fun j hj=>by rw [zCq hj _ hy,zEP hs hj]);have hx:=zBw (c:=tr c) hp.2 hn.2 (fun j hj=>by rw [zCq hj _ hy,zEP hs hj]);have hb:=zCP h (e s) (e s) hy;rw [hr,hx,zDw,zC1 hk hk,zC1 hs hs,h.diag k hk,h.diag s hs] at hb;have p1:=hp.1 k hk;have p2:=hp.2 k hk;generalize aR n c y (e s) k=a at *;generalize aR n (tr c) y (e s) k=b at *;have hab:b*a=1:=by omega
   have ha:a=1:=Int.eq_one_of_mul_eq_one_left p1 hab;have hb1:b=1:=by rw [ha] at hab; omega
   subst ha; subst hb1;have h1:aR n c y (e s)=e k:=by rw [hr]; funext j; simp
   have h2:aR n (tr c) y (e s)=e k:=by rw [hx]; funext j; simp
   refine ⟨y,hy,by simp,?_⟩;have h3:=comm h hy hs hk h1 h2;have h4:Eqv n c (k::(y++[s])) ([k]++(k::y)):=(Eqv.refl [k]).app h3;have h5:Eqv n c ([k,k]++y) ([]++y):=(Eqv.two h hk).app (Eqv.refl y);exact h4.trans h5
  ·obtain ⟨w',h1,h2,h3⟩:=zCt h hs hy (fun z hz hz'=>hc z (by simp; omega) hz') hn';refine ⟨k::w',fun j hj=>?_,by simp; omega,(Eqv.refl [k]).app h3⟩;rcases List.mem_cons.1 hj with rfl | hj
   ·exact hk
   ·exact h1 j hj
end
end Go.Proofs.YtlchafedbnihoaaGreatDoor.Cox
namespace Go.Proofs.YtlchafedbnihoaaGreatDoor.Cox
structure St where
 a:Int
 b:Int
 a':Int
 b':Int
deriving DecidableEq
def stS (p q:Int) (x:St):St:=⟨-x.a+p*x.b,x.b,-x.a'+q*x.b',x.b'⟩
def stT (p q:Int) (x:St):St:=⟨x.a,-x.b+q*x.a,x.a',-x.b'+p*x.a'⟩
def St.neg (x:St):St:=⟨-x.a,-x.b,-x.a',-x.b'⟩
def up (p q:Int):Nat→St
 | 0=>⟨1,0,1,0⟩
 | k+1=>if k % 2=0 then stT p q (up p q k) else stS p q (up p q k)
theorem St.ext' {x y:St} (h1:x.a=y.a) (h2:x.b=y.b) (h3:x.a'=y.a') (h4:x.b'=y.b'):x=y:=by
 cases x; cases y; simp_all
theorem zMc (p q:Int) (x:St):stS p q (stS p q x)=x:=by
 apply St.ext' <;> simp only [stS] <;> omega
theorem zMe (p q:Int) (x:St):stT p q (stT p q x)=x:=by
 apply St.ext' <;> simp only [stT] <;> omega
theorem zMb (p q:Int) (x:St):stS p q x.neg=(stS p q x).neg:=by
 apply St.ext' <;> simp only [stS,St.neg,Int.mul_neg] <;> omega
theorem zMd (p q:Int) (x:St):stT p q x.neg=(stT p q x).neg:=by
 apply St.ext' <;> simp only [stT,St.neg,Int.mul_neg] <;> omega
theorem zHL (x:St):x.neg.neg=x:=by
 apply St.ext' <;> simp only [St.neg] <;> omega
def zDS (p q:Int) (x:St):Prop:=∃k,x=up p q k∨x=(up p q k).neg
theorem zMS {p q:Int} {x:St} (h:zDS p q x):zDS p q (stT p q x):=by
 have key:∀k,zDS p q (stT p q (up p q k)):=by
  intro k;by_cases hk:k % 2=0
  ·exact ⟨k+1,.inl (by simp [up,hk])⟩
  ·obtain ⟨j,rfl⟩:∃j,k=j+1:=⟨k-1,by omega⟩;have hj:j % 2=0:=by omega
   exact ⟨j,.inl (by simp only [up,hj,if_true]; exact zMe p q _)⟩
 obtain ⟨k,rfl | rfl⟩:=h
 ·exact key k
 ·rw [zMd];obtain ⟨j,h | h⟩:=key k
  ·exact ⟨j,.inr (by rw [h])⟩
  ·exact ⟨j,.inl (by rw [h,zHL])⟩
theorem zMR {p q:Int} {x:St} (h:zDS p q x):zDS p q (stS p q x):=by
 have key:∀k,zDS p q (stS p q (up p q k)):=by
  intro k;rcases k with _ | j
  ·exact ⟨0,.inr (by apply St.ext' <;> simp [stS,up,St.neg])⟩
  ·by_cases hk:j % 2=0
   ·have hj:(j+1) % 2≠0:=by omega
    exact ⟨j+2,.inl (by rw [show up p q (j+2)=if (j+1) % 2=0 then stT p q (up p q (j+1)) else stS p q (up p q (j+1)) from rfl,if_neg hj])⟩
   ·exact ⟨j,.inl (by simp only [up,hk,if_false]; exact zMc p q _)⟩
 obtain ⟨k,rfl | rfl⟩:=h
 ·exact key k
 ·rw [zMb];obtain ⟨j,h | h⟩:=key k
  ·exact ⟨j,.inr (by rw [h])⟩
  ·exact ⟨j,.inl (by rw [h,zHL])⟩
def Coh4 (x:St):Prop:=(0≤x.a∧0≤x.b∧0≤x.a'∧0≤x.b')∨(x.a≤0∧x.b≤0∧x.a'≤0∧x.b'≤0)
instance (x:St):Decidable (Coh4 x):=by unfold Coh4; infer_instance
theorem zIq (p q:Int) (k:Nat):up p q (k+1)=if k % 2=0 then stT p q (up p q k) else stS p q (up p q k):=rfl
theorem zKk {p q:Int} (h:up p q 24=up p q 0) (k:Nat):up p q (24+k)=up p q k:=by
 induction k with
 | zero=>exact h
 | succ k ih =>
  have e1:(24+k) % 2=k % 2:=by omega
  rw [<-Nat.add_assoc,zIq,zIq,e1,ih]
theorem zLv {p q:Int} (h:up p q 24=up p q 0) (h2:∀k,k<24→Coh4 (up p q k)) (k:Nat):Coh4 (up p q k):=by
 induction k using Nat.strongRecOn with
 | _ k ih =>
  by_cases hk:k<24
  ·exact h2 k hk
  ·have:=ih (k-24) (by omega);rw [<-zKk h (k-24),show 24+(k-24)=k by omega] at this;exact this
theorem zH9 {p q:Int} (hp:2≤p∧p≤3) (hq:2≤q∧q≤3):∀k,0≤(up p q k).a∧0≤(up p q k).b∧0≤(up p q k).a'∧0≤(up p q k).b' ∧
  (k % 2=0→2*(up p q k).b≤q*(up p q k).a∧2*(up p q k).b'≤p*(up p q k).a')∧(k % 2=1→2*(up p q k).a≤p*(up p q k).b∧2*(up p q k).a'≤q*(up p q k).b')
 | 0=>by
  simp only [up];omega
 | k+1=>by
  obtain ⟨h1,h2,h3,h4,h5,h6⟩:=zH9 hp hq k;by_cases hk:k % 2=0
  ·obtain ⟨h5,h7⟩:=h5 hk;simp only [up,hk,if_true,stT];generalize up p q k=x at *;have cp:p=2∨p=3:=by omega
   have cq:q=2∨q=3:=by omega
   rcases cp with rfl | rfl <;> rcases cq with rfl | rfl <;> omega
  ·obtain ⟨h6,h7⟩:=h6 (by omega);simp only [up,hk,if_false,stS];generalize up p q k=x at *;have cp:p=2∨p=3:=by omega
   have cq:q=2∨q=3:=by omega
   rcases cp with rfl | rfl <;> rcases cq with rfl | rfl <;> omega
theorem zJa {p q:Int} (hp:0≤p∧p≤3) (hq:0≤q∧q≤3) (h0:p=0↔q=0) (k:Nat):Coh4 (up p q k):=by
 by_cases h4:2≤p∧2≤q
 ·have:=zH9 ⟨h4.1,hp.2⟩ ⟨h4.2,hq.2⟩ k;exact .inl ⟨this.1,this.2.1,this.2.2.1,this.2.2.2.1⟩
 ·have hc:(p=0∧q=0)∨(p=1∧q=1)∨(p=1∧q=2)∨(p=1∧q=3)∨(p=2∧q=1)∨(p=3∧q=1):=by omega
  rcases hc with ⟨rfl,rfl⟩ | ⟨rfl,rfl⟩ | ⟨rfl,rfl⟩ | ⟨rfl,rfl⟩ | ⟨rfl,rfl⟩ | ⟨rfl,rfl⟩ <;> exact zLv (by decide) (by decide) k
def run (p q:Int):List Bool→St
 | []=>⟨1,0,1,0⟩
 | true::x=>stS p q (run p q x)
 | false::x=>stT p q (run p q x)
theorem zMV {p q:Int} (hp:0≤p∧p≤3) (hq:0≤q∧q≤3) (h0:p=0↔q=0) (x:List Bool):Coh4 (run p q x):=by
 have h:zDS p q (run p q x):=by
  induction x with
  | nil=>exact ⟨0,.inl rfl⟩
  | cons b x ih =>
   cases b
   ·exact zMS ih
   ·exact zMR ih
 obtain ⟨k,h | h⟩:=h
 ·rw [h]; exact zJa hp hq h0 k
 ·rw [h];have:=zJa hp hq h0 k;unfold Coh4 at *;simp only [St.neg];omega
end Go.Proofs.YtlchafedbnihoaaGreatDoor.Cox
namespace Go.Proofs.YtlchafedbnihoaaGreatDoor.Cox
section
variable {n:Nat} {c:Nat→Nat→Int}
def toW (s t:Nat) (x:List Bool):List Nat:=x.map fun b=>if b then s else t
theorem zIg {s t:Nat} (hs:s<n) (ht:t<n) (a b:Int) (i:Nat):sR n c i (fun j=>a*e s j+b*e t j)=fun j=>(a*e s j+b*e t j)-(a*c i s+b*c i t)*e i j:=by
 unfold sR;rw [zBk,dotN_e _ _ _ hs,dotN_e _ _ _ ht]
theorem zLD (h:Car n c) {s t:Nat} (hs:s<n) (ht:t<n) (x:List Bool) :
  aR n c (toW s t x) (e s)=(fun j=>(run (-c s t) (-c t s) x).a*e s j+(run (-c s t) (-c t s) x).b*e t j) ∧
  aR n (tr c) (toW s t x) (e s)=(fun j=>(run (-c s t) (-c t s) x).a'*e s j+(run (-c s t) (-c t s) x).b'*e t j):=by
 induction x with
 | nil=>exact ⟨by funext j; simp [toW,aR,run],by funext j; simp [toW,aR,run]⟩
 | cons b x ih =>
  obtain ⟨h1,h2⟩:=ih;cases b
  ·have e1:toW s t (false::x)=t::toW s t x:=rfl;rw [e1];simp only [aR,h1,h2,run,stT,zIg hs ht,h.diag t ht,show tr c t s=c s t from rfl,show tr c t t=c t t from rfl];generalize run (-c s t) (-c t s) x=y;refine ⟨funext fun j=>?_,funext fun j=>?_⟩
   ·rw [Int.add_mul,Int.add_mul,Int.neg_mul,Int.neg_mul,Int.mul_assoc y.b,Int.mul_left_comm y.b,Int.mul_comm (c t s) y.a,Int.neg_mul]; omega
   ·rw [Int.add_mul,Int.add_mul,Int.neg_mul,Int.neg_mul,Int.mul_assoc y.b',Int.mul_left_comm y.b',Int.mul_comm (c s t) y.a',Int.neg_mul]; omega
  ·have e1:toW s t (true::x)=s::toW s t x:=rfl;rw [e1];simp only [aR,h1,h2,run,stS,zIg hs ht,h.diag s hs,show tr c s t=c t s from rfl,show tr c s s=c s s from rfl];generalize run (-c s t) (-c t s) x=y;refine ⟨funext fun j=>?_,funext fun j=>?_⟩
   ·rw [Int.add_mul,Int.add_mul,Int.neg_mul,Int.neg_mul,Int.mul_assoc y.a,Int.mul_left_comm y.a,Int.mul_comm (c s t) y.b,Int.neg_mul]; omega
   ·rw [Int.add_mul,Int.add_mul,Int.neg_mul,Int.neg_mul,Int.mul_assoc y.a',Int.mul_left_comm y.a',Int.mul_comm (c t s) y.b',Int.neg_mul]; omega
theorem zH8 {w w':List Nat} {s:Nat} (h:Eqv n c w w') (k:Coh n c w' s):Coh n c w s:=by
 unfold Coh PosA NegA at *;rw [h.r,h.x];exact k
theorem zHg {v x:List Nat} {s:Nat} (h:Car n c) (hs:s<n) (hv:Lets n v) (hc:∀y,y.length<v.length→Lets n y→Coh n c y s) (hn:NegA n c v s) :
  ∃v',Lets n v'∧v'.length+1=v.length∧Eqv n c (v++x) (v'++(s::x)):=by
 obtain ⟨v',h1,h2,h3⟩:=zCt h hs hv hc hn;refine ⟨v',h1,h2,?_⟩;have h4:Eqv n c ((v++[s])++(s::x)) (v'++(s::x)):=h3.app (Eqv.refl _);have h5:Eqv n c (v++([s,s]++x)) (v++([]++x)):=(Eqv.refl v).app ((Eqv.two h hs).app (Eqv.refl x));have e1:(v++[s])++(s::x)=v++([s,s]++x):=by simp
 rw [e1] at h4;exact h5.symm.trans h4
theorem zLw (h:Car n c) {s t:Nat} (hs:s<n) (ht:t<n) (hst:s≠t) {N:Nat} (ih:∀w,w.length≤N→Lets n w→∀i,i<n→Coh n c w i) :
  ∀(L:Nat) (v:List Nat) (x:List Bool),v.length=L→L≤N→Lets n v→Coh n c (v++toW s t x) s:=by
 intro L
 induction L using Nat.strongRecOn with
 | _ L ihL =>
  intro v x hvl hL hv;have hv':v.length≤N:=by omega
  rcases ih v hv' hv s hs with ps | ns
  ·rcases ih v hv' hv t ht with pt | nt
   ·have hp:=h.off s t hs ht hst;have hq:=h.off t s ht hs (fun e=>hst e.symm);have hc:=zMV (p:=-c s t) (q:=-c t s) (by omega) (by omega) (by
     have h1:=h.zero s t hs ht;have h2:=h.zero t s ht hs;omega) x
    obtain ⟨h1,h2⟩:=zLD h hs ht x;unfold Coh PosA NegA;rw [zA3,zA3,h1,h2,zDF,zDF];generalize run (-c s t) (-c t s) x=y at *;rcases hc with ⟨a1,a2,a3,a4⟩ | ⟨a1,a2,a3,a4⟩
    ·refine .inl ⟨fun k hk=>?_,fun k hk=>?_⟩
     ·have:=Int.mul_nonneg a1 (ps.1 k hk);have:=Int.mul_nonneg a2 (pt.1 k hk);show 0≤_*_+_*_;omega
     ·have:=Int.mul_nonneg a3 (ps.2 k hk);have:=Int.mul_nonneg a4 (pt.2 k hk);show 0≤_*_+_*_;omega
    ·refine .inr ⟨fun k hk=>?_,fun k hk=>?_⟩
     ·have:=Int.mul_nonneg (a:=-y.a) (by omega) (ps.1 k hk);have:=Int.mul_nonneg (a:=-y.b) (by omega) (pt.1 k hk);rw [Int.neg_mul] at *;show y.a*_+y.b*_≤0;omega
     ·have:=Int.mul_nonneg (a:=-y.a') (by omega) (ps.2 k hk);have:=Int.mul_nonneg (a:=-y.b') (by omega) (pt.2 k hk);rw [Int.neg_mul] at *;show y.a'*_+y.b'*_≤0;omega
   ·obtain ⟨v',h1,h2,h3⟩:=zHg (x:=toW s t x) h ht hv (fun y hy hy'=>ih y (by omega) hy' t ht) nt;exact zH8 h3 (ihL v'.length (by omega) v' (false::x) rfl (by omega) h1)
  ·obtain ⟨v',h1,h2,h3⟩:=zHg (x:=toW s t x) h hs hv (fun y hy hy'=>ih y (by omega) hy' s hs) ns;exact zH8 h3 (ihL v'.length (by omega) v' (true::x) rfl (by omega) h1)
theorem zDZ (h:Car n c):∀(N:Nat) (w:List Nat),w.length≤N→Lets n w→∀s,s<n→Coh n c w s
 | 0,w,hw,_,s,hs=>by
  have:w=[]:=List.eq_nil_of_length_eq_zero (by omega);subst this;refine .inl ⟨fun k _=>?_,fun k _=>?_⟩ <;> (simp only [aR,e]; split <;> omega)
 | N+1,w,hw,hl,s,hs=>by
  rcases List.eq_nil_or_concat w with rfl | ⟨v,t,rfl⟩
  ·exact zDZ h N [] (by simp) hl s hs
  ·have hvl:v.length≤N:=by simp at hw; omega
   have hv:Lets n v:=fun i hi=>hl i (by simp [hi]);have ht:t<n:=hl t (by simp);by_cases hst:s=t
   ·subst hst;have hsub:∀(d:Nat→Nat→Int),Car n d→aR n d (v++[s]) (e s)=fun k=>- aR n d v (e s) k:=by
     intro d hd;rw [zA3];show aR n d v (sR n d s (e s))=_;have:sR n d s (e s)=fun k=>(-1)*e s k+0*e s k:=by
      funext k;unfold sR;rw [dotN_e _ _ _ hs,hd.diag s hs];omega
     rw [this,zDF];funext k;omega
    simp only [List.concat_eq_append];unfold Coh PosA NegA;rw [hsub c h,hsub (tr c) h.tr];rcases zDZ h N v hvl hv s hs with hh | hh
    ·refine .inr ⟨fun k hk=>?_,fun k hk=>?_⟩
     ·have:=hh.1 k hk; show -_≤_; omega
     ·have:=hh.2 k hk; show -_≤_; omega
    ·refine .inl ⟨fun k hk=>?_,fun k hk=>?_⟩
     ·have:=hh.1 k hk; show _≤-_; omega
     ·have:=hh.2 k hk; show _≤-_; omega
   ·simp only [List.concat_eq_append];exact zLw h hs ht hst (fun w hw hl i hi=>zDZ h N w hw hl i hi) v.length v [false] rfl hvl hv
theorem coh (h:Car n c) {w:List Nat} (hw:Lets n w) {s:Nat} (hs:s<n):Coh n c w s:=zDZ h w.length w (zNl _) hw s hs
def one:Nat→Int:=fun _=>1
theorem zBz:∀{n:Nat} {x:Nat→Int},Pos n x→0≤dotN x one n∧(dotN x one n=0→∀k,k<n→x k=0)
 | 0,_,_=>⟨Int.le_refl _,fun _ k hk=>by omega⟩
 | n+1,x,h=>by
  obtain ⟨h1,h2⟩:=zBz (n:=n) (x:=x) (fun k hk=>h k (by omega));have h3:=h n (by omega);simp only [dotN,one,Int.mul_one] at *;refine ⟨by omega,fun h0 k hk=>?_⟩;by_cases hkn:k=n
  ·subst hkn; omega
  ·exact h2 (by omega) k (by omega)
theorem zDy {x f:Nat→Int} {n:Nat} (h:∀k,k<n→x k=0):dotN x f n=0:=by
 rw [dotN_comm,dotN_congr (h:=fun k=>0*0) (fun k hk=>by rw [h k hk]; rfl)];have:=zBk f (fun _=>0) (fun _=>0) 0 0 n;simpa using this
theorem lets_rev {w:List Nat} (h:Lets n w):Lets n w.reverse:=fun i hi=>h i (by simpa using hi)
theorem zDt (h:Car n c) (m:Nat→Int):∀{w:List Nat},Lets n w→aW c w.reverse (aW c w m)=m
 | [],_=>rfl
 | i::w,hw=>by
  have hi:i<n:=hw i (by simp);rw [List.reverse_cons,zB9];show aW c w.reverse (sW c i (sW c i (aW c w m)))=m;rw [sW_two h hi];exact zDt h m fun j hj=>hw j (by simp [hj])
theorem zLb (h:Car n c) (m:Nat→Int) {w:List Nat} (hw:Lets n w):aW c w (aW c w.reverse m)=m:=by
 have:=zDt h m (lets_rev hw);rwa [List.reverse_reverse] at this
theorem zFW (h:Car n c) {w:List Nat} (hw:Lets n w) {i:Nat} (hi:i<n) (m:Nat→Int):aW c w m i=dotN (aR n (tr c) w.reverse (e i)) m n:=by
 have h1:aW c w m i=dotN (e i) (aW c w m) n:=by rw [dotN_comm,dotN_e _ _ _ hi]
 rw [h1,<-zHp h (e i) (aW c w m) (lets_rev hw),zDt h m hw]
theorem image_step (h:Car n c) {w:List Nat} (hw:Lets n w) {i:Nat} (hi:i<n) :
  aW c w one i≠0∧(aW c w one i<0→∃w',Lets n w'∧w'.length+1=w.length∧sW c i (aW c w one)=aW c w' one):=by
 rw [zFW h hw hi];have hr:=lets_rev hw;have hb:=zCP h (e i) (e i) hr;rw [zC1 hi hi,h.diag i hi] at hb;rcases coh h hr hi with hp | hn
 ·obtain ⟨h1,h2⟩:=zBz hp.2;refine ⟨fun h0=>?_,fun h0=>by omega⟩;have:=h2 h0;unfold bil at hb;rw [zDy this] at hb;omega
 ·have hneg:Pos n (fun k=>-1*aR n (tr c) w.reverse (e i) k+0*0):=fun k hk=>by have:=hn.2 k hk; show 0≤-1*_+0*0; omega
  obtain ⟨h1,h2⟩:=zBz hneg;rw [dotN_comm,zBk one (aR n (tr c) w.reverse (e i)) (fun _=>0) (-1) 0 n,dotN_comm] at h1 h2;refine ⟨fun h0=>?_,fun _=>?_⟩
  ·have h3:=h2 (by rw [h0]; omega);unfold bil at hb;rw [zDy (fun k hk=>by have:=h3 k hk; omega)] at hb;omega
  ·obtain ⟨w',a1,a2,a3⟩:=zCt h hi hr (fun y _ hy=>coh h hy hi) hn;refine ⟨w'.reverse,lets_rev a1,by simp at a2 ⊢; omega,?_⟩;show aW c (i::w) one=aW c w'.reverse one;have e1:(i::w)=(w.reverse++[i]).reverse:=by simp
   have hl:Lets n (w.reverse++[i]):=fun j hj=>by
    rcases List.mem_append.1 hj with h | h
    ·exact hr j h
    ·simp at h; omega
   rw [e1];have b1:=zLb h one a1;have b2:=zDt h (aW c w'.reverse one) hl;rw [a3.m,b1] at b2;exact b2
end
end Go.Proofs.YtlchafedbnihoaaGreatDoor.Cox
namespace Go.Proofs.YtlchafedbnihoaaGreatDoor
open Go.RowKit
set_option maxRecDepth 20000
def zAL:List Int→Option Nat
 | []=>none
 | x::xs=>if x<0 then some 0 else (zAL xs).map (· + 1)
theorem zDB:∀{v:List Int},zAL v=none↔∀x∈v,0≤x
 | []=>by simp [zAL]
 | x::xs=>by
  unfold zAL;by_cases h:x<0
  ·simp [h]; intro h2; omega
  ·simp [h,zDB (v:=xs)]; omega
theorem zB0:∀{v:List Int} {i:Nat},zAL v=some i→∃x,v[i]? = some x∧x<0∧∀j,j<i→∀y,v[j]? = some y→0≤y
 | [],_,h=>by simp [zAL] at h
 | x::xs,i,h=>by
  unfold zAL at h;by_cases hx:x<0
  ·simp [hx] at h; subst h; exact ⟨x,rfl,hx,fun j hj=>by omega⟩
  ·simp [hx] at h;obtain ⟨k,hk,rfl⟩:=h;obtain ⟨y,h1,h2,h3⟩:=zB0 hk;refine ⟨y,by simpa using h1,h2,fun j hj z hz=>?_⟩;cases j with
   | zero=>simp at hz; omega
   | succ j=>exact h3 j (by omega) z (by simpa using hz)
theorem zC6 {v:List Int} {i:Nat} (h:zAL v=some i):i<v.length:=by
 obtain ⟨x,h1,_⟩:=zB0 h;exact (zNj h1).1
def nf (c:List (List Int)):Nat→List Int→List Int
 | 0,_=>[]
 |f+1,v=>match zAL v with
  | none=>[]
  | some i=>(i:Int)::nf c f (refl c i v)
def toN (w:List Int):List Nat:=w.map Int.toNat
def zAs (c:List (List Int)) (w:List Int):List Int:=act c w (List.replicate c.length 1)
def zAQ (c:List (List Int)) (w:List Int):List Int:=nf c 30 (zAs c w)
theorem CartanP.car {c:List (List Int)} (h:CartanP c):Cox.Car c.length (ent c):=by
 refine ⟨fun i hi=>?_,fun i j hi hj hn=>?_,fun i j hi hj h0=>?_⟩
 ·have:=h.ok i i hi hi;simpa [okE] using this
 ·have:=h.ok i j hi hj;simp [okE,hn] at this;exact this.1
 ·by_cases hn:i=j
  ·subst hn; exact h0
  ·have:=h.ok i j hi hj;simp [okE,hn] at this;have:=this.2;rw [h0] at this;simpa using this
structure Im (c:List (List Int)) (v:List Int) (m:Nat):Prop where
 len:v.length=c.length
 word:∃w:List Nat,Cox.Lets c.length w∧w.length=m∧∀k,k<c.length→num v k=Cox.aW (ent c) w Cox.one k
theorem zKv (m:Nat):(1:Int)≤4 ^ m:=by
 have:=Nat.one_le_two_pow (n:=0)
 induction m with
 | zero=>simp
 | succ m ih=>rw [Int.pow_succ]; omega
theorem zDU {n:Nat} {c:Nat→Nat→Int} (h:Cox.Car n c):∀{w:List Nat},Cox.Lets n w→∀k,k<n→-(4 ^ w.length)≤Cox.aW c w Cox.one k∧Cox.aW c w Cox.one k≤4 ^ w.length
 | [],_,k,_=>by simp [Cox.aW,Cox.one]
 | i::w,hw,k,hk=>by
  have hi:i<n:=hw i (by simp);have hw':Cox.Lets n w:=fun j hj=>hw j (by simp [hj]);have b1:=zDU h hw' k hk;have b2:=zDU h hw' i hi;simp only [Cox.aW,Cox.sW,List.length_cons,Int.pow_succ];generalize Cox.aW c w Cox.one i=x at *;generalize Cox.aW c w Cox.one k=y at *;have hpos:=zKv w.length;generalize (4:Int) ^ w.length=B at *;by_cases hik:k=i
  ·subst hik;rw [h.diag k hk];have:x=y∨True:=.inr trivial;omega
  ·have ho:=h.off k i hk hi hik;have hc:c k i=0∨c k i = -1∨c k i = -2∨c k i = -3:=by omega
   rcases hc with e | e | e | e <;> rw [e] <;> omega
theorem zEW {x:Int} (h1:-9223372036854775808≤x) (h2:x≤9223372036854775807):wrap64 x=x:=by
 unfold wrap64;omega
theorem zHX {c:List (List Int)} {i:Nat} {v:List Int} {k:Nat} (hk:k<v.length):num (refl c i v) k=wrap64 (num v k-wrap64 (num v i*ent c k i)):=by
 have key:∀(x:Int) (l:List Int) (o k:Nat),k<l.length→num (zAj c i x l o) k=wrap64 (num l k-wrap64 (x*ent c (o+k) i)):=by
  intro x l
  induction l with
  | nil=>intro o k hk; simp at hk
  | cons y ys ih =>
   intro o k hk;cases k with
   | zero=>simp [zAj,num]
   | succ k =>
    have:=ih (o+1) k (by simpa using hk);simp only [num,zAj,List.getElem?_cons_succ] at this ⊢;rw [this,show o+1+k=o+(k+1) by omega]
 have:=key (num v i) v 0 k hk;rw [Nat.zero_add] at this;exact this
theorem zKE {m:Nat} (h:m≤30):(4:Int) ^ m≤1152921504606846976:=by
 have h1:(4:Nat) ^ m≤4 ^ 30:=Nat.pow_le_pow_right (by omega) h;have h2:((4 ^ m:Nat):Int)≤((4 ^ 30:Nat):Int):=by exact_mod_cast h1
 have h3:((4 ^ m:Nat):Int)=(4:Int) ^ m:=by simp
 rw [h3] at h2;simpa using h2
theorem zCN {c:List (List Int)} (hc:CartanP c) {v:List Int} (hv:v.length=c.length) {w:List Nat} (hw:Cox.Lets c.length w) (hm:w.length≤30) (h:∀k,k<c.length→num v k=Cox.aW (ent c) w Cox.one k) {i:Nat} (hi:i<c.length) {k:Nat} (hk:k<c.length) :
  num (refl c i v) k=Cox.sW (ent c) i (Cox.aW (ent c) w Cox.one) k:=by
 rw [zHX (by omega),h k hk,h i hi];have b1:=zDU hc.car hw k hk;have b2:=zDU hc.car hw i hi;have b3:=zKE hm;unfold Cox.sW;generalize Cox.aW (ent c) w Cox.one i=x at *;generalize Cox.aW (ent c) w Cox.one k=y at *;generalize (4:Int) ^ w.length=B at *;have he:ent c k i=2∨ent c k i=0∨ent c k i = -1∨ent c k i = -2∨ent c k i = -3:=by
  by_cases hik:k=i
  ·subst hik; exact .inl (hc.car.diag k hk)
  ·have ho:=hc.car.off k i hk hi hik; omega
 rcases he with e | e | e | e | e <;> rw [e] <;> rw [zEW (x:=x*_) (by omega) (by omega),zEW (by omega) (by omega)]
theorem Im.step {c:List (List Int)} (hc:CartanP c) {v:List Int} {m:Nat} (h:Im c v m) (hm:m≤30) {i:Nat} (hi:i<c.length):Im c (refl c i v) (m+1):=by
 obtain ⟨hl,w,hw,hwl,hn⟩:=h;refine ⟨by rw [zBJ,hl],i::w,fun j hj=>?_,by simp [hwl],fun k hk=>zCN hc hl hw (by omega) hn hi hk⟩;rcases List.mem_cons.1 hj with rfl | hj
 ·exact hi
 ·exact hw j hj
theorem zIT {v:List Int} {x:Int} (h:x∈v):∃k,k<v.length∧num v k=x:=by
 obtain ⟨k,hk,rfl⟩:=List.getElem_of_mem h;exact ⟨k,hk,by simp [num,hk]⟩
theorem Im.ne {c:List (List Int)} (hc:CartanP c) {v:List Int} {m:Nat} (h:Im c v m) {x:Int} (hx:x∈v):x≠0:=by
 obtain ⟨hl,w,hw,hwl,hn⟩:=h;obtain ⟨k,hk,rfl⟩:=zIT hx;rw [hn k (by omega)];exact (Cox.image_step hc.car hw (by omega)).1
theorem Im.back {c:List (List Int)} (hc:CartanP c) {v:List Int} {m:Nat} (h:Im c v m) (hm:m≤30) {i:Nat} {x:Int} (hx:v[i]? = some x) (hx0:x<0):∃m',m=m'+1∧Im c (refl c i v) m':=by
 obtain ⟨hl,w,hw,hwl,hn⟩:=h;have hi:i<c.length:=by have:=(zNj hx).1; omega
 obtain ⟨w',a1,a2,a3⟩:=(Cox.image_step hc.car hw hi).2 (by rw [<-hn i hi,zAv hx]; exact hx0);exact ⟨w'.length,by omega,by rw [zBJ,hl],w',a1,rfl,fun k hk=>by rw [zCN hc hl hw (by omega) hn hi hk,a3]⟩
theorem Im.zero {c:List (List Int)} {v:List Int} (h:Im c v 0):zAL v=none:=by
 obtain ⟨hl,w,hw,hwl,hn⟩:=h;have:w=[]:=List.eq_nil_of_length_eq_zero hwl;subst this;refine zDB.2 fun x hx=>?_;obtain ⟨k,hk,rfl⟩:=zIT hx;rw [hn k (by omega)];simp [Cox.aW,Cox.one]
theorem zET {c:List (List Int)} (hc:CartanP c):∀(m:Nat) {v:List Int} {f:Nat},Im c v m→m≤30→m≤f→nf c f v=nf c m v
 | 0,v,f,h,_,_=>by
  cases f with
  | zero=>rfl
  | succ f=>simp [nf,h.zero]
 | m+1,v,f,h,hm,hf=>by
  obtain ⟨f,rfl⟩:∃k,f=k+1:=⟨f-1,by omega⟩;simp only [nf];cases e:zAL v with
  | none=>rfl
  | some i =>
   obtain ⟨x,h1,h2,_⟩:=zB0 e;obtain ⟨m',hm',h3⟩:=h.back hc hm h1 h2;have:m'=m:=by omega
   subst this;simp only;rw [zET hc m' h3 (by omega) (by omega)]
theorem zLV {c:List (List Int)} (hc:CartanP c):∀(m:Nat) {v:List Int},(nf c m v).length≤m
 | 0,v=>by simp [nf]
 | m+1,v=>by
  simp only [nf];cases e:zAL v with
  | none=>simp
  | some i=>simp; exact zLV hc m
theorem zEU {c:List (List Int)} (hc:CartanP c) {m:Nat} {v:List Int} {i:Nat} (h:Im c v m) (hm:m≤30) (e:zAL v=some i):∃m',m=m'+1∧Im c (refl c i v) m'∧nf c 30 v=(i:Int)::nf c 30 (refl c i v):=by
 obtain ⟨x,h1,h2,_⟩:=zB0 e;obtain ⟨m',rfl,h3⟩:=h.back hc hm h1 h2;refine ⟨m',rfl,h3,?_⟩;rw [zET hc (m'+1) h hm hm,zET hc m' h3 (by omega) (by omega)];simp [nf,e]
theorem zHM {c:List (List Int)} {v:List Int} (e:zAL v=none):nf c 30 v=[]:=by simp [nf,e]
theorem zB5 {c:List (List Int)} (hc:CartanP c):∀{w:List Int},Lets c.length w→w.length≤30→Im c (zAs c w) w.length
 | [],_,_=>⟨by simp [zAs,act],[],fun i hi=>by simp at hi,rfl,fun k hk=>by simp [zAs,act,num,Cox.aW,Cox.one,hk]⟩
 | i::w,hw,hl=>by
  have h1:=zB5 hc (w:=w) (fun x hx=>hw x (by simp [hx])) (by simp at hl; omega);have h2:=hw i (by simp);exact h1.step hc (by simp at hl; omega) (by omega)
theorem zB6 {c:List (List Int)} (hc:CartanP c) {w:List Int} (hw:Lets c.length w) (hl:w.length≤30):(zAQ c w).length≤w.length:=by
 unfold zAQ;rw [zET hc _ (zB5 hc hw hl) hl hl];exact zLV hc _
end Go.Proofs.YtlchafedbnihoaaGreatDoor
namespace Go.Proofs.YtlchafedbnihoaaGreatDoor.Fin
set_option maxRecDepth 20000
def en (c:List (List Int)) (i j:Nat):Int:=(c[i]?.getD [])[j]?.getD 0
def cut (j:Nat) (r:List Int):List Int:=r.take j++r.drop (j+1)
def without (m:List (List Int)) (j:Nat):List (List Int):=(m.drop 1).map (cut j)
def sum (f:Nat→Int):Nat→Int
 | 0=>0
 | k+1=>sum f k+f k
def sgn (j:Nat) (x:Int):Int:=if j % 2=1 then -x else x
def det:Nat→List (List Int)→Int
 | 0,_=>1
 | n+1,m=>sum (fun j=>sgn j (en m 0 j*det n (without m j))) (n+1)
def bits:Nat→Nat→List Nat
 | 0,_=>[]
 | n+1,k=>bits n k++if k / 2 ^ n % 2=1 then [n] else []
def sub (c:List (List Int)) (s:List Nat):List (List Int):=s.map fun i=>s.map fun j=>en c i j
def zBh (c:List (List Int)) (n k:Nat):Int:=det (bits n k).length (sub c (bits n k))
def zCm (c:List (List Int)) (n:Nat):Nat→Bool
 | 0=>true
 | k+1=>decide (0<zBh c n (k+1)) && zCm c n k
def isFin (c:List (List Int)):Bool:=zCm c c.length (2 ^ c.length-1)
theorem zCF {c:List (List Int)} {n:Nat}:∀{k:Nat},zCm c n k=true↔∀m,1≤m→m≤k→0<zBh c n m
 | 0=>by simp [zCm]; omega
 | k+1=>by
  simp only [zCm,Bool.and_eq_true,decide_eq_true_eq];rw [zCF (k:=k)];constructor
  ·rintro ⟨h1,h2⟩ m hm hk;rcases Nat.lt_or_ge k m with h | h
   ·obtain rfl:m=k+1:=by omega
    exact h1
   ·exact h2 m hm h
  ·exact fun h=>⟨h _ (by omega) (zNl _),fun m hm hk=>h m hm (by omega)⟩
def zE7 (B:Nat) (m:List (List Int)):Prop:=∀r∈m,∀x∈r,x.natAbs≤B
theorem zLy {j:Nat} {r:List Int} {x:Int} (h:x∈cut j r):x∈r:=by
 unfold cut at h;rcases List.mem_append.1 h with h | h
 ·exact List.mem_of_mem_take h
 ·exact List.mem_of_mem_drop h
theorem zE7.without {B:Nat} {m:List (List Int)} (h:zE7 B m) (j:Nat):zE7 B (without m j):=by
 intro r hr x hx;unfold Fin.without at hr;obtain ⟨r0,h0,rfl⟩:=List.mem_map.1 hr;exact h r0 (List.mem_of_mem_drop h0) x (zLy hx)
theorem zE7.en {B:Nat} {m:List (List Int)} (h:zE7 B m) (i j:Nat):(en m i j).natAbs≤B:=by
 unfold Fin.en;cases hr:m[i]? with
 | none=>simp
 | some r =>
  simp only [Option.getD_some];cases hx:r[j]? with
  | none=>simp
  | some x=>exact h r (zNi hr) x (zNi hx)
def tab (n:Nat) (f:Nat→Nat→Int):List (List Int):=(List.range n).map fun i=>(List.range n).map fun j=>f i j
theorem zDz {n:Nat} {f:Nat→Nat→Int} {i j:Nat} (hi:i<n) (hj:j<n):en (tab n f) i j=f i j:=by
 simp [en,tab,hi,hj]
structure Sqr (c:List (List Int)) (n:Nat):Prop where
 len:c.length=n
 row:∀r∈c,r.length=n
theorem Sqr.without {m:List (List Int)} {n:Nat} (h:Sqr m (n+1)) {j:Nat} (hj:j≤n):Sqr (without m j) n:=by
 refine ⟨by simp [Fin.without,h.len],fun r hr=>?_⟩;unfold Fin.without at hr;obtain ⟨r0,h0,rfl⟩:=List.mem_map.1 hr;have:=h.row r0 (List.mem_of_mem_drop h0);simp [cut]; omega
theorem zMl (n:Nat) (f:Nat→Nat→Int):Sqr (tab n f) n:=by
 refine ⟨by simp [tab],fun r hr=>?_⟩;obtain ⟨i,_,rfl⟩:=List.mem_map.1 hr;simp
theorem zNP {c:List (List Int)} {n:Nat} (h:Sqr c n):tab n (en c)=c:=by
 refine List.ext_getElem (by simp [tab,h.len]) fun i h1 h2=>?_;simp only [tab,List.getElem_map,List.getElem_range];have hr:(c[i]).length=n:=h.row _ (List.getElem_mem h2);refine List.ext_getElem (by simp [hr]) fun j h3 h4=>?_;simp [en,h2,h4]
theorem zFm:∀{n k x:Nat},x∈bits n k→x<n
 | 0,_,_,h=>by simp [bits] at h
 | n+1,k,x,h=>by
  simp only [bits] at h;rcases List.mem_append.1 h with h | h
  ·have:=zFm h; omega
  ·split at h
   ·simp at h; omega
   ·simp at h
theorem zLf {n k:Nat} (h:k<2 ^ n):bits (n+1) k=bits n k:=by
 simp [bits,Nat.div_eq_of_lt h]
theorem zKY {c c':List (List Int)} {s:List Nat} (h:∀i∈s,∀j∈s,en c i j=en c' i j):sub c s=sub c' s:=by
 unfold sub;exact List.map_congr_left fun i hi=>List.map_congr_left fun j hj=>h i hi j hj
theorem zK6 {c:List (List Int)} {n k:Nat} (h:k<2 ^ n):zBh c (n+1) k=zBh (tab n (en c)) n k:=by
 unfold zBh;rw [zLf h];congr 1;exact zKY fun i hi j hj=>(zDz (zFm hi) (zFm hj)).symm
def opts:List (Int × Int):=[(0,0),(-1,-1),(-1,-2),(-2,-1),(-1,-3),(-3,-1)]
def zCo:Nat→List (List (Int × Int))
 | 0=>[[]]
 | n+1=>opts.flatMap fun o=>(zCo n).map (o :: ·)
theorem zEb:∀{n:Nat} {l:List (Int × Int)},l.length=n→(∀o∈l,o∈opts)→l∈zCo n
 | 0,[],_,_=>by simp [zCo]
 | n+1,o::l,hl,h=>by
  simp only [zCo,List.mem_flatMap,List.mem_map];exact ⟨o,h o (by simp),l,zEb (by simpa using hl) (fun x hx=>h x (by simp [hx])),rfl⟩
def extL (m:List (List Int)) (ps:List (Int × Int)):List (List Int):=List.zipWith (fun r p=>r++[p.1]) m ps++[ps.map (·.2)++[2]]
def fast (a01 a02 a03 a10 a12 a13 a20 a21 a23 a30 a31 a32:Nat):Bool :=
 decide (2*(a01*a10+a03*a30+a13*a31)+(a01*a13*a30+a03*a31*a10)<8) &&
 (decide (2*(a02*a20+a03*a30+a23*a32)+(a02*a23*a30+a03*a32*a20)<8) &&
 (decide (2*(a12*a21+a13*a31+a23*a32)+(a12*a23*a31+a13*a32*a21)<8) &&
 decide (4*(a01*a10+a02*a20+a03*a30+a12*a21+a13*a31+a23*a32) +
  2*(a01*a13*a30+a03*a31*a10+(a02*a23*a30+a03*a32*a20)+(a12*a23*a31+a13*a32*a21)+(a01*a12*a20+a02*a21*a10)) +
  (a01*a12*a23*a30+a01*a13*a32*a20+a02*a21*a13*a30+a02*a23*a31*a10+a03*a31*a12*a20+a03*a32*a21*a10)
  < 16+(a01*a10*(a23*a32)+a02*a20*(a13*a31)+a03*a30*(a12*a21)))))
def zI1:List (List Int)→Bool
 | [[_,a01,a02,a03],[a10,_,a12,a13],[a20,a21,_,a23],[a30,a31,a32,_]] =>
  fast (-a01).toNat (-a02).toNat (-a03).toNat (-a10).toNat (-a12).toNat (-a13).toNat (-a20).toNat (-a21).toNat (-a23).toNat (-a30).toNat (-a31).toNat (-a32).toNat
 | _=>false
def okM:Nat→List (List Int)→Bool
 | 4,c=>zI1 c
 | n,c=>zCm c n (2 ^ n-1)
def mats:Nat→List (List (List Int))
 | 0=>[[]]
 | n+1=>(mats n).flatMap fun m=>((zCo n).map (extL m)).filter (okM (n+1))
structure Ent (n:Nat) (f:Nat→Nat→Int):Prop where
 diag:∀i,i<n→f i i=2
 off:∀i j,i<n→j<n→i≠j→-3≤f i j∧f i j≤0
 zero:∀i j,i<n→j<n→(f i j=0↔f j i=0)
theorem zJw {c:List (List Int)} {n i:Nat} (hn:n≤3) (hi:i<n) (h1:en c i i=2) (h2:en c n n=2):zBh c (n+1) (2 ^ i+2 ^ n)=4-en c i n*en c n i:=by
 have hb:bits (n+1) (2 ^ i+2 ^ n)=[i,n]:=by
  match n,i,hn,hi with
  | 1,0,_,_=>rfl
  | 2,0,_,_=>rfl
  | 2,1,_,_=>rfl
  | 3,0,_,_=>rfl
  | 3,1,_,_=>rfl
  | 3,2,_,_=>rfl
 unfold zBh;rw [hb];simp [sub,det,sum,sgn,without,cut,en];simp [en] at h1 h2;rw [h1,h2];omega
theorem zJ6 {x y:Int} (hx:-3≤x∧x≤0) (hy:-3≤y∧y≤0) (h0:x=0↔y=0) (h:0<4-x*y):(x,y)∈opts:=by
 have h1:x=0∨x = -1∨x = -2∨x = -3:=by omega
 have h2:y=0∨y = -1∨y = -2∨y = -3:=by omega
 rcases h1 with rfl | rfl | rfl | rfl <;> rcases h2 with rfl | rfl | rfl | rfl <;> simp [opts] at * <;> omega
theorem zFP {α:Type} {l:List α} (h:l.length=4):∃a b c d,l=[a,b,c,d]:=by match l,h with | [a,b,c,d],_=>exact ⟨a,b,c,d,rfl⟩
theorem zBV {x:Int} (h:-3≤x∧x≤0):∃a:Nat,x = -(a:Int):=⟨(-x).toNat,by omega⟩
theorem zK2 (a01 a02 a03 a10 a12 a13 a20 a21 a23 a30 a31 a32:Int) :
  zBh [[2,-a01,-a02,-a03],[-a10,2,-a12,-a13],[-a20,-a21,2,-a23],[-a30,-a31,-a32,2]] 4 11=8-(2*(a01*a10+a03*a30+a13*a31)+(a01*a13*a30+a03*a31*a10)):=by
 have hb:bits 4 11=[0,1,3]:=rfl;unfold zBh;rw [hb];simp only [sub,List.map_cons,List.map_nil,List.length_cons,List.length_nil];simp [det,sum,sgn,without,cut,en]
 grind
theorem zK3 (a01 a02 a03 a10 a12 a13 a20 a21 a23 a30 a31 a32:Int) :
  zBh [[2,-a01,-a02,-a03],[-a10,2,-a12,-a13],[-a20,-a21,2,-a23],[-a30,-a31,-a32,2]] 4 13=8-(2*(a02*a20+a03*a30+a23*a32)+(a02*a23*a30+a03*a32*a20)):=by
 have hb:bits 4 13=[0,2,3]:=rfl;unfold zBh;rw [hb];simp only [sub,List.map_cons,List.map_nil,List.length_cons,List.length_nil];simp [det,sum,sgn,without,cut,en]
 grind
theorem zK4 (a01 a02 a03 a10 a12 a13 a20 a21 a23 a30 a31 a32:Int) :
  zBh [[2,-a01,-a02,-a03],[-a10,2,-a12,-a13],[-a20,-a21,2,-a23],[-a30,-a31,-a32,2]] 4 14=8-(2*(a12*a21+a13*a31+a23*a32)+(a12*a23*a31+a13*a32*a21)):=by
 have hb:bits 4 14=[1,2,3]:=rfl;unfold zBh;rw [hb];simp only [sub,List.map_cons,List.map_nil,List.length_cons,List.length_nil];simp [det,sum,sgn,without,cut,en]
 grind
theorem zK5 (a01 a02 a03 a10 a12 a13 a20 a21 a23 a30 a31 a32:Int) :
  zBh [[2,-a01,-a02,-a03],[-a10,2,-a12,-a13],[-a20,-a21,2,-a23],[-a30,-a31,-a32,2]] 4 15=16+(a01*a10*(a23*a32)+a02*a20*(a13*a31)+a03*a30*(a12*a21))-(4*(a01*a10+a02*a20+a03*a30+a12*a21+a13*a31+a23*a32) +
  2*(a01*a13*a30+a03*a31*a10+(a02*a23*a30+a03*a32*a20)+(a12*a23*a31+a13*a32*a21)+(a01*a12*a20+a02*a21*a10)) +
  (a01*a12*a23*a30+a01*a13*a32*a20+a02*a21*a13*a30+a02*a23*a31*a10+a03*a31*a12*a20+a03*a32*a21*a10)):=by
 have hb:bits 4 15=[0,1,2,3]:=rfl;unfold zBh;rw [hb];simp only [sub,List.map_cons,List.map_nil,List.length_cons,List.length_nil];simp [det,sum,sgn,without,cut,en]
 grind
theorem zL5 {c:List (List Int)} (hs:Sqr c 4) (he:Ent 4 (en c)) (hp:zCm c 4 15=true):zI1 c=true:=by
 obtain ⟨r0,r1,r2,r3,rfl⟩:=zFP hs.len;obtain ⟨x00,x01,x02,x03,rfl⟩:=zFP (hs.row r0 (by simp));obtain ⟨x10,x11,x12,x13,rfl⟩:=zFP (hs.row r1 (by simp));obtain ⟨x20,x21,x22,x23,rfl⟩:=zFP (hs.row r2 (by simp));obtain ⟨x30,x31,x32,x33,rfl⟩:=zFP (hs.row r3 (by simp));have d0:x00=2:=he.diag 0 (by omega);have d1:x11=2:=he.diag 1 (by omega);have d2:x22=2:=he.diag 2 (by omega);have d3:x33=2:=he.diag 3 (by omega);subst d0; subst d1; subst d2; subst d3;obtain ⟨a01,rfl⟩:=zBV (x:=x01) (he.off 0 1 (by omega) (by omega) (by omega));obtain ⟨a02,rfl⟩:=zBV (x:=x02) (he.off 0 2 (by omega) (by omega) (by omega));obtain ⟨a03,rfl⟩:=zBV (x:=x03) (he.off 0 3 (by omega) (by omega) (by omega));obtain ⟨a10,rfl⟩:=zBV (x:=x10) (he.off 1 0 (by omega) (by omega) (by omega))
 obtain ⟨a12,rfl⟩:=zBV (x:=x12) (he.off 1 2 (by omega) (by omega) (by omega));obtain ⟨a13,rfl⟩:=zBV (x:=x13) (he.off 1 3 (by omega) (by omega) (by omega));obtain ⟨a20,rfl⟩:=zBV (x:=x20) (he.off 2 0 (by omega) (by omega) (by omega));obtain ⟨a21,rfl⟩:=zBV (x:=x21) (he.off 2 1 (by omega) (by omega) (by omega));obtain ⟨a23,rfl⟩:=zBV (x:=x23) (he.off 2 3 (by omega) (by omega) (by omega));obtain ⟨a30,rfl⟩:=zBV (x:=x30) (he.off 3 0 (by omega) (by omega) (by omega));obtain ⟨a31,rfl⟩:=zBV (x:=x31) (he.off 3 1 (by omega) (by omega) (by omega));obtain ⟨a32,rfl⟩:=zBV (x:=x32) (he.off 3 2 (by omega) (by omega) (by omega));rw [zCF] at hp;have h1:=hp 11 (by omega) (by omega);have h2:=hp 13 (by omega) (by omega);have h3:=hp 14 (by omega) (by omega);have h4:=hp 15 (by omega) (by omega);rw [zK2] at h1;rw [zK3] at h2;rw [zK4] at h3;rw [zK5] at h4
 unfold zI1 fast;simp only [Int.neg_neg,Int.toNat_natCast,Bool.and_eq_true,decide_eq_true_eq];refine ⟨?_,?_,?_,?_⟩
 ·have h:(2*((a01:Int)*a10+a03*a30+a13*a31)+(a01*a13*a30+a03*a31*a10))<8:=by omega
  exact_mod_cast h
 ·have h:(2*((a02:Int)*a20+a03*a30+a23*a32)+(a02*a23*a30+a03*a32*a20))<8:=by omega
  exact_mod_cast h
 ·have h:(2*((a12:Int)*a21+a13*a31+a23*a32)+(a12*a23*a31+a13*a32*a21))<8:=by omega
  exact_mod_cast h
 ·have h:=Int.lt_of_sub_pos h4
  exact_mod_cast h
theorem zGr:∀{n:Nat} {c:List (List Int)},n≤4→Sqr c n→Ent n (en c)→zCm c n (2 ^ n-1)=true→c∈mats n
 | 0,c,_,hs,_,_=>by
  have:=List.eq_nil_of_length_eq_zero hs.len;subst this; simp [mats]
 | n+1,c,hn,hs,he,hp=>by
  rw [zCF] at hp;have hm:tab n (en c)∈mats n:=by
   refine zGr (by omega) (zMl _ _) ⟨fun i hi=>?_,fun i j hi hj=>?_,fun i j hi hj=>?_⟩ ?_
   ·rw [zDz hi hi]; exact he.diag i (by omega)
   ·rw [zDz hi hj]; exact he.off i j (by omega) (by omega)
   ·rw [zDz hi hj,zDz hj hi]; exact he.zero i j (by omega) (by omega)
   ·rw [zCF];intro k hk hk2;have hpow:2 ^ n≥1:=Nat.one_le_two_pow;rw [<-zK6 (by omega)];exact hp k hk (by rw [Nat.pow_succ]; omega)
  let ps:List (Int × Int):=(List.range n).map fun i=>(en c i n,en c n i)
  have hps:ps∈zCo n:=by
   refine zEb (by simp [ps]) fun o ho=>?_;obtain ⟨i,hi,rfl⟩:=List.mem_map.1 ho;have hi:=List.mem_range.1 hi;refine zJ6 (he.off i n (by omega) (by omega) (by omega)) (he.off n i (by omega) (by omega) (by omega)) (he.zero i n (by omega) (by omega)) ?_;rw [<-zJw (by omega) hi (he.diag i (by omega)) (he.diag n (by omega))];have h1:2 ^ i≤2 ^ (n-1):=Nat.pow_le_pow_right (by omega) (by omega);have h2:2 ^ n=2*2 ^ (n-1):=by rw [<-Nat.pow_succ']; congr 1; omega
   have h3:1≤2 ^ (n-1):=Nat.one_le_two_pow;have h4:1≤2 ^ i:=Nat.one_le_two_pow;generalize 2 ^ i=p at *;refine hp _ (by omega) (by rw [Nat.pow_succ]; omega)
  have hc:extL (tab n (en c)) ps=c:=by
   have hd:=he.diag n (by omega);refine Eq.trans ?_ (zNP hs);simp only [extL,tab,ps,List.range_succ,List.map_append,List.map_map,List.map_cons,List.map_nil,Function.comp_def];rw [List.zipWith_map,List.zipWith_self,hd]
  simp only [mats,List.mem_flatMap,List.mem_filter,List.mem_map];refine ⟨_,hm,⟨ps,hps,hc⟩,?_⟩;by_cases h3:n=3
  ·subst h3;exact zL5 hs he (zCF.2 hp)
  ·unfold okM;split
   ·omega
   ·exact zCF.2 hp
end Go.Proofs.YtlchafedbnihoaaGreatDoor.Fin
namespace Go.Proofs.YtlchafedbnihoaaGreatDoor.Fin
set_option maxRecDepth 200000
def dec (n k:Nat):List (List Int):=tab n fun i j=>if i=j then 2 else -((k / 4 ^ (i*n+j) % 4:Nat):Int)
def K1:List Nat:=[0]
def L1:List (List (List Int)):=K1.map (dec 1)
def K2:List Nat:=[0,20,36,24,52,28]
def L2:List (List (List Int)):=K2.map (dec 2)
def K3:List Nat:=[0,17408,33792,18432,50176,19456,4112,21520,37904,22544,8208,25616,
 4128,21536,12304,4144,68,17476,33860,18500,4180,8276,4196,132,
 17540,4244,72,17480,4184,196,76]
def L3:List (List (List Int)):=K3.map (dec 3)
def K4:List Nat:=[0,272629760,541065216,276824064,809500672,281018368,67125248,339755008,608190464,343949312,134234112,406863872,
 67141632,339771392,201342976,67158016,16777280,289407040,557842496,293601344,83902528,356532288,151011392,83918912,
 33554496,306184256,100679744,16777344,289407104,83902592,50331712,16777408,266240,272896000,541331456,277090304,
 67391488,134500352,67407872,17043520,289673280,558108736,293867584,84168768,151277632,84185152,33820736,306450496,
 100945984,17043584,289673344,84168832,50597952,17043648,528384,273158144,67653632,17305664,289935424,84430912,
 34082880,17305728,50860096,17305792,270336,272900096,67395584,17047616,289677376,84172864,33824832,17047680,
 50602048,17047744,790528,17567808,34345024,17567872,51122240,17567936,274432,17051712,33828928,17051776,
 50606144,17051840,65552,272695312,541130768,276889616,67190800,339820560,608256016,344014864,134299664,406929424,
 67207184,339836944,201408528,67223568,16842832,83968080,151076944,83984464,33620048,100745296,16842896,83968144,
 331792,272961552,67457040,134565904,67473424,17109072,33886288,17109136,593936,67719184,17371216,335888,
 67461136,17113168,131088,272760848,67256336,339886096,134365200,67272720,201474064,67289104,16908368,84033616,
 397328,67522576,17174608,65568,272695328,67190816,339820576,134299680,67207200,201408544,67223584,16842848,
 83968096,331808,67457056,17109088,196624,67321872,134430736,67338256,201539600,67354640,65584,67190832,
 134299696,67207216,201408560,67223600,260,272630020,541065476,276824324,809500932,281018628,67125508,339755268,
 608190724,343949572,134234372,406864132,67141892,339771652,16777540,289407300,557842756,293601604,33554756,306184516,
 16777604,289407364,266500,272896260,541331716,277090564,67391748,17043780,33820996,17043844,528644,273158404,
 17305924,270596,272900356,17047876,65812,272695572,541131028,276889876,67191060,134299924,67207444,16843092,
 131348,272761108,67256596,65828,272695588,67191076,516,272630276,541065732,276824580,809501188,281018884,
 67125764,339755524,16777796,289407556,266756,272896516,17044036,66068,272695828,67191316,264,272630024,
 541065480,276824328,809500936,281018632,67125512,339755272,16777544,289407304,266504,272896264,17043784,65816,
 272695576,67191064,772,272630532,541065988,276824836,809501444,281019140,268,272630028,541065484,276824332,
 809500940,281018636]
def L4:List (List (List Int)):=K4.map (dec 4)
theorem zLS:mats 1=L1:=by decide +kernel
theorem zLT:mats 2=L2:=by
 show (mats 1).flatMap _=_;rw [zLS];decide +kernel
theorem zLU:mats 3=L3:=by
 show (mats 2).flatMap _=_;rw [zLT];decide +kernel
theorem zNa:mats 4=L4:=by
 show (mats 3).flatMap _=_;rw [zLU];decide +kernel
theorem mem_lists {n:Nat} {c:List (List Int)} (h1:1≤n) (hn:n≤4) (hs:Sqr c n) (he:Ent n (en c)) (hp:zCm c n (2 ^ n-1)=true):c∈L1++L2++L3++L4:=by
 have h:=zGr hn hs he hp
 match n,h1,hn,h with
 | 1,_,_,h=>rw [zLS] at h; simp [h]
 | 2,_,_,h=>rw [zLT] at h; simp [h]
 | 3,_,_,h=>rw [zLU] at h; simp [h]
 | 4,_,_,h=>rw [zNa] at h; simp [h]
end Go.Proofs.YtlchafedbnihoaaGreatDoor.Fin
namespace Go.Proofs.YtlchafedbnihoaaGreatDoor
open Go.RowKit
set_option maxRecDepth 20000
set_option linter.unusedVariables false
def cRef (n:Nat) (c:List (List Int)) (i:Nat) (b:List Int):List Int:=(List.range n).map fun j=>Cox.sR n (Cox.tr (ent c)) i (num b) j
def zBy (n i:Nat):List Int:=(List.range n).map fun j=>Cox.e i j
def dg (b k:Nat):Nat:=b / 16 ^ k % 16
def sumN (f:Nat→Nat):Nat→Nat
 | 0=>0
 | n+1=>sumN f n+f n
def mkD (n:Nat) (f:Nat→Nat):Nat:=sumN (fun k=>f k*16 ^ k) n
def offN (c:List (List Int)) (k i:Nat):Nat:=if k=i then 0 else (-(ent c k i)).toNat
def upN (n:Nat) (c:List (List Int)) (i b:Nat):Nat:=sumN (fun k=>dg b k*offN c k i) n
def sB (n:Nat) (c:List (List Int)) (i b:Nat):Nat:=mkD n fun j=>if j=i then upN n c i b-dg b i else dg b j
structure FinP (c:List (List Int)):Prop where
 cart:CartanP c
 pos:Fin.isFin c=true
theorem FinP.listed {c:List (List Int)} (h:FinP c):c∈Fin.L1++Fin.L2++Fin.L3++Fin.L4:=by
 have hk:=h.cart.car;exact Fin.mem_lists h.cart.pos h.cart.le ⟨rfl,h.cart.row⟩ ⟨hk.diag,hk.off,fun i j hi hj=>⟨hk.zero i j hi hj,hk.zero j i hj hi⟩⟩ h.pos
theorem FinP.all {c:List (List Int)} (h:FinP c) {P:List (List Int)→Bool} (hP:(Fin.L1++Fin.L2++Fin.L3++Fin.L4).all P=true):P c=true:=List.all_eq_true.1 hP c h.listed
structure Cor (c:List (List Int)) (T:List (List Int)):Prop where
 len:T.length≤24
 nonneg:∀b∈T,∀x∈b,0≤x
 small:∀b∈T,Cox.dotN (num b) Cox.one c.length≤12
 unit:∀i,i<c.length→zBy c.length i∈T
 perm:∀i,i<c.length→((T.erase (zBy c.length i)).map (cRef c.length c i)).Perm (T.erase (zBy c.length i))
theorem zC9 {n:Nat} {f:Nat→Int} {k:Nat} (hk:k<n):num ((List.range n).map f) k=f k:=by simp [num,hk]
theorem zDA {f f' g:Nat→Int} {n:Nat} (h:∀k,k<n→f k=f' k):Cox.dotN f g n=Cox.dotN f' g n:=by
 rw [Cox.dotN_comm,Cox.dotN_congr (f:=g) h,Cox.dotN_comm]
def prL (n:Nat) (b v:List Int):Int:=Cox.dotN (num b) (num v) n
theorem zIb {n i:Nat} (hi:i<n) (v:List Int):prL n (zBy n i) v=num v i:=by
 unfold prL zBy;rw [zDA (f':=Cox.e i) (fun k hk=>zC9 hk),Cox.dotN_comm,Cox.dotN_e _ _ _ hi]
structure Wt (c T:List (List Int)) (v:List Int):Prop where
 len:v.length=c.length
 bd:∀b∈T,-12012≤prL c.length b v∧prL c.length b v≤12012
section
variable {c T:List (List Int)} {v:List Int}
theorem Wt.num (h:Wt c T v) (hT:Cor c T) {k:Nat} (hk:k<c.length):-12012≤num v k∧num v k≤12012:=by
 have:=h.bd _ (hT.unit k hk);rwa [zIb hk] at this
theorem Wt.exact {v:List Int} (h:Wt c T v) (hT:Cor c T) (hc:CartanP c) {i k:Nat} (hi:i<c.length) (hk:k<c.length):Proofs.YtlchafedbnihoaaGreatDoor.num (refl c i v) k=Cox.sW (ent c) i (Proofs.YtlchafedbnihoaaGreatDoor.num v) k:=by
 rw [zHX (by rw [h.len]; exact hk)];have h1:=h.num hT hi;have h2:=h.num hT hk;unfold Cox.sW;generalize Proofs.YtlchafedbnihoaaGreatDoor.num v i=x at *;generalize Proofs.YtlchafedbnihoaaGreatDoor.num v k=y at *;have he:ent c k i=2∨ent c k i=0∨ent c k i = -1∨ent c k i = -2∨ent c k i = -3:=by
  by_cases hik:k=i
  ·subst hik; exact .inl (hc.car.diag k hk)
  ·have ho:=hc.car.off k i hk hi hik; omega
 rcases he with e | e | e | e | e <;> rw [e] <;> rw [zEW (x:=x*_) (by omega) (by omega),zEW (by omega) (by omega)]
theorem Wt.turn {v:List Int} (h:Wt c T v) (hT:Cor c T) (hc:CartanP c) {i:Nat} (hi:i<c.length) (b:List Int):prL c.length b (refl c i v)=prL c.length (cRef c.length c i b) v:=by
 unfold prL cRef;rw [Cox.dotN_congr (fun k hk=>h.exact hT hc hi hk),<-Cox.wt_adj (c:=ent c) _ _ hi];exact (zDA (fun k hk=>zC9 hk)).symm
theorem zIa {v:List Int} (hc:CartanP c) {i:Nat} (hi:i<c.length):prL c.length (cRef c.length c i (zBy c.length i)) v = -(num v i):=by
 have h1:∀k,k<c.length→num (cRef c.length c i (zBy c.length i)) k=Cox.e i k*(-1):=fun k hk=>by
  unfold cRef;rw [zC9 hk];unfold Cox.sR;have hu:∀k,k<c.length→num (zBy c.length i) k=Cox.e i k:=fun k hk=>zC9 hk;rw [Cox.dotN_congr hu,Cox.dotN_e _ _ _ hi,hu k hk];have:=hc.car.diag i hi;unfold Cox.tr;rw [this];omega
 unfold prL;rw [zDA (f':=fun k=>-1*Cox.e i k) (fun k hk=>by rw [h1 k hk]; omega),Cox.dotN_comm,Cox.dotN_scale,Cox.dotN_e _ _ _ hi];omega
theorem zEB (hT:Cor c T) {i:Nat} (hi:i<c.length):T.Perm (zBy c.length i::T.erase (zBy c.length i)):=List.perm_cons_erase (hT.unit i hi)
theorem Wt.step {v:List Int} (h:Wt c T v) (hT:Cor c T) (hc:CartanP c) {i:Nat} (hi:i<c.length):Wt c T (refl c i v):=by
 refine ⟨by rw [zBJ,h.len],fun b hb=>?_⟩;rw [h.turn hT hc hi];rcases List.mem_cons.1 ((zEB hT hi).subset hb) with rfl | hb'
 ·rw [zIa hc hi];have:=h.num hT hi;omega
 ·have:cRef c.length c i b∈T.erase (zBy c.length i):=(hT.perm i hi).subset (List.mem_map.2 ⟨b,hb',rfl⟩);exact h.bd _ (List.mem_of_mem_erase this)
def negs (c T:List (List Int)) (v:List Int):Nat:=T.countP fun b=>decide (prL c.length b v<0)
theorem zJ1 {v:List Int} (h:Wt c T v) (hT:Cor c T) (hc:CartanP c) {i:Nat} (hi:i<c.length) (hn:num v i<0):negs c T v=negs c T (refl c i v)+1:=by
 unfold negs;rw [(zEB hT hi).countP_eq,(zEB hT hi).countP_eq,List.countP_cons,List.countP_cons];have h1:(T.erase (zBy c.length i)).countP (fun b=>decide (prL c.length b (refl c i v)<0))=(T.erase (zBy c.length i)).countP (fun b=>decide (prL c.length b v<0)):=by
  rw [<-(hT.perm i hi).countP_eq (fun b=>decide (prL c.length b v<0)),List.countP_map];congr 1;funext b;simp only [Function.comp_apply];rw [h.turn hT hc hi]
 rw [h1,zIb hi,h.turn hT hc hi,zIa hc hi];have h2:¬ -(num v i)<0:=by omega
 simp [hn];omega
theorem zMH (hT:Cor c T) (v:List Int):negs c T v≤24:=Nat.le_trans List.countP_le_length hT.len
def DomS (c T:List (List Int)) (v:List Int) (m:Nat):Prop:=Wt c T v∧negs c T v=m
theorem zJ4 {v:List Int} {i:Nat} (e:zAL v=some i):num v i<0:=by
 obtain ⟨x,h1,h2,_⟩:=zB0 e;rw [zAv h1]; exact h2
theorem DomS.back {v:List Int} {m:Nat} (h:DomS c T v m) (hT:Cor c T) (hc:CartanP c) {i:Nat} (e:zAL v=some i):∃m',m=m'+1∧DomS c T (refl c i v) m':=by
 have hi:i<c.length:=by have:=zC6 e; rw [h.1.len] at this; exact this
 have:=zJ1 h.1 hT hc hi (zJ4 e);exact ⟨negs c T (refl c i v),by rw [<-h.2]; exact this,h.1.step hT hc hi,rfl⟩
theorem DomS.fuel (hT:Cor c T) (hc:CartanP c):∀(m:Nat) {v:List Int} {f:Nat},DomS c T v m→m≤f→nf c f v=nf c m v
 | 0,v,f,h,_=>by
  have h0:zAL v=none:=by
   cases e:zAL v with
   | none=>rfl
   | some i=>obtain ⟨m',hm,_⟩:=h.back hT hc e; omega
  cases f with
  | zero=>rfl
  | succ f=>simp [nf,h0]
 | m+1,v,f,h,hf=>by
  obtain ⟨f,rfl⟩:∃k,f=k+1:=⟨f-1,by omega⟩;simp only [nf];cases e:zAL v with
  | none=>rfl
  | some i =>
   obtain ⟨m',hm',h3⟩:=h.back hT hc e;have:m'=m:=by omega
   subst this;simp only;rw [DomS.fuel hT hc m' h3 (by omega)]
theorem DomS.le {v:List Int} {m:Nat} (h:DomS c T v m) (hT:Cor c T):m≤24:=by rw [<-h.2]; exact zMH hT v
end
structure Down (c:List (List Int)) (P:List Int→Nat→Prop):Prop where
 len:∀v m,P v m→v.length=c.length
 le:∀v m,P v m→m≤30
 turn:∀v m i,P v m→zAL v=some i→∃m',m=m'+1∧P (refl c i v) m'∧nf c 30 v=(i:Int)::nf c 30 (refl c i v)
theorem zL1 {c:List (List Int)} (hc:CartanP c):Down c (fun v m=>Im c v m∧m≤30) :=
 ⟨fun v m h=>h.1.len,fun v m h=>h.2,fun v m i h e=>by
  obtain ⟨m',rfl,h1,h2⟩:=zEU hc h.1 h.2 e;exact ⟨m',rfl,⟨h1,by have:=h.2; omega⟩,h2⟩⟩
theorem zIS {c:List (List Int)} {P:List Int→Nat→Prop} (hD:Down c P):∀(m:Nat) {v:List Int},P v m→Lets c.length (nf c 30 v)
 | 0,v,h=>by
  cases e:zAL v with
  | none=>simp [nf,e,Lets]
  | some i=>obtain ⟨m',hm,_⟩:=hD.turn v 0 i h e; omega
 | m+1,v,h=>by
  cases e:zAL v with
  | none=>simp [nf,e,Lets]
  | some i =>
   obtain ⟨m',hm,h1,h2⟩:=hD.turn v _ i h e;have:m'=m:=by omega
   subst this;rw [h2];have h3:=zIS hD m' h1;have h4:=zC6 e;have h5:=hD.len v _ h;intro x hx;rcases List.mem_cons.1 hx with rfl | hx
   ·omega
   ·exact h3 x hx
end Go.Proofs.YtlchafedbnihoaaGreatDoor
namespace Go.Proofs.YtlchafedbnihoaaGreatDoor
open Go.RowKit
set_option maxRecDepth 20000
namespace Cox
variable {n:Nat} {c:Nat→Nat→Int}
theorem zGk (h:Car n c) {m m':Nat→Int} (hm:∀k,k<n→m k=m' k):∀{w:List Nat},Lets n w→∀k,k<n→aW c w m k=aW c w m' k
 | [],_,k,hk=>hm k hk
 | i::w,hw,k,hk=>by
  have ih:=zGk h hm (w:=w) (fun j hj=>hw j (by simp [hj]));have hi:i<n:=hw i (by simp);show sW c i (aW c w m) k=sW c i (aW c w m') k;unfold sW;rw [ih k hk,ih i hi]
theorem zHA {a b:List Nat} (ha:Lets n a) (hb:Lets n b):Lets n (a++b):=fun j hj=>by
 rcases List.mem_append.1 hj with h | h
 ·exact ha j h
 ·exact hb j h
theorem pos_one (h:Car n c):∀(N:Nat) (w:List Nat),w.length≤N→Lets n w→(∀k,k<n→0≤aW c w one k)→∀k,k<n→aW c w one k=1
 | _,[],_,_,_=>fun k _=>rfl
 | 0,i::w,hN,_,_=>by simp at hN
 | N+1,i::w,hN,hw,h1=>by
  have hi:i<n:=hw i (by simp);have hw':Lets n w:=fun j hj=>hw j (by simp [hj]);have e:0≤aW c w one i-aW c w one i*c i i:=h1 i hi;rw [h.diag i hi] at e;have h0:=(image_step h hw' hi).1;obtain ⟨w',a1,a2,a3⟩:=(image_step h hw' hi).2 (by omega);have e2:aW c (i::w) one=aW c w' one:=a3;intro k hk;rw [e2];exact pos_one h N w' (by simp at hN; omega) a1 (fun k hk=>by rw [<-e2]; exact h1 k hk) k hk
end Cox
theorem zFz {v v':List Int} {n:Nat} (h:v.length=n) (h':v'.length=n) (he:∀k,k<n→num v k=num v' k):v=v':=by
 refine List.ext_getElem (by omega) fun k h1 h2=>?_;have:=he k (by omega);simpa [num,h1,h2] using this
theorem Im.ones {c:List (List Int)} (hc:CartanP c) {v:List Int} {m:Nat} (h:Im c v m) (e:zAL v=none):v=List.replicate c.length 1:=by
 obtain ⟨hl,w,hw,_,hn⟩:=h;refine zFz hl (by simp) fun k hk=>?_;rw [hn k hk];have:=Cox.pos_one hc.car _ w (zNl _) hw (fun k hk=>by
  rw [<-hn k hk];have hk':k<v.length:=by omega
  have:num v k=v[k]:=by simp [num,hk']
  rw [this];exact zDB.1 e _ (List.getElem_mem _)) k hk
 rw [this];simp [num,hk]
theorem Im.turn_two {c:List (List Int)} (hc:CartanP c) {v:List Int} {m:Nat} (h:Im c v m) (hm:m+1≤30) {i:Nat} (hi:i<c.length):refl c i (refl c i v)=v:=by
 have h2:=h.step hc (by omega) hi;obtain ⟨hl,w,hw,hwl,hn⟩:=h;have hlr:(refl c i v).length=c.length:=by rw [zBJ,hl]
 have hw2:Cox.Lets c.length (i::w):=fun j hj=>by
  rcases List.mem_cons.1 hj with rfl | hj
  ·exact hi
  ·exact hw j hj
 have hn2:∀k,k<c.length→num (refl c i v) k=Cox.aW (ent c) (i::w) Cox.one k:=fun k hk=>zCN hc hl hw (by omega) hn hi hk;refine zFz (n:=c.length) (by rw [zBJ,zBJ,hl]) hl fun k hk=>?_;rw [zCN hc hlr hw2 (by simp; omega) hn2 hi hk,hn k hk];show Cox.sW (ent c) i (Cox.sW (ent c) i (Cox.aW (ent c) w Cox.one)) k=_;rw [Cox.sW_two hc.car hi]
theorem zHN {c:List (List Int)} (hc:CartanP c):∀(m:Nat) {v:List Int},Im c v m→m≤29→zAs c (nf c 30 v)=v
 | m,v,h,hm=>by
  cases e:zAL v with
  | none=>rw [zHM e,h.ones hc e]; rfl
  | some i =>
   obtain ⟨m',rfl,h1,h2⟩:=zEU hc h (by omega) e;have ih:=zHN hc m' h1 (by omega);have hi:i<c.length:=by have:=zC6 e; rw [h.len] at this; exact this
   rw [h2];show refl c (i:Int).toNat (zAs c (nf c 30 (refl c i v)))=v;rw [ih];exact h.turn_two hc (by omega) hi
theorem zFV {c:List (List Int)} (hc:CartanP c) {x:List Int} (hx:Lets c.length x) (hl:x.length≤30):Lets c.length (zAQ c x):=zIS (zL1 hc) x.length ⟨zB5 hc hx hl,hl⟩
def zES (c:List (List Int)):List Int:=nf c 30 (List.replicate c.length (-1))
def zH6 (c:List (List Int)):Bool:=decide (zAs c (zES c)=List.replicate c.length (-1)) && (decide ((zES c).length≤24) && (zES c).all fun x=>decide (0≤x∧x<c.length))
theorem zKz:(Fin.L1++Fin.L2++Fin.L3++Fin.L4).all zH6=true:=by decide +kernel
theorem FinP.long {c:List (List Int)} (h:FinP c):Im c (List.replicate c.length (-1)) (zES c).length∧(zES c).length≤24:=by
 have:=h.all zKz;unfold zH6 at this;simp only [Bool.and_eq_true,decide_eq_true_eq,List.all_eq_true] at this;obtain ⟨h1,h2,h3⟩:=this;have:=zB5 h.cart (w:=zES c) (fun x hx=>h3 x hx) (by omega);rw [h1] at this;exact ⟨this,h2⟩
end Go.Proofs.YtlchafedbnihoaaGreatDoor
namespace Go.Proofs.YtlchafedbnihoaaGreatDoor
open Go.RowKit
set_option maxRecDepth 20000
namespace Cox
variable {n:Nat} {c:Nat→Nat→Int}
theorem zD0 (h:Car n c) {s:Nat} (hs:s<n):∀{w:List Nat},Lets n w→NegA n c w s→∃w',Lets n w'∧w'.length+1=w.length∧w'.Sublist w∧Eqv n c (w++[s]) w'
 | [],_,hn=>by
  have:=hn.1 s hs;simp [aR,e] at this
 | k::y,hw,hn=>by
  have hk:k<n:=hw k (by simp);have hy:Lets n y:=fun j hj=>hw j (by simp [hj]);rcases coh h hy hs with hp | hn'
  ·have hr:=zBw hp.1 hn.1 (fun j hj=>by rw [zCq hj _ hy,zEP hs hj]);have hx:=zBw (c:=tr c) hp.2 hn.2 (fun j hj=>by rw [zCq hj _ hy,zEP hs hj]);have hb:=zCP h (e s) (e s) hy;rw [hr,hx,zDw,zC1 hk hk,zC1 hs hs,h.diag k hk,h.diag s hs] at hb;have p1:=hp.1 k hk;generalize aR n c y (e s) k=a at *;generalize aR n (tr c) y (e s) k=b at *;have hab:b*a=1:=by omega
   have ha:a=1:=Int.eq_one_of_mul_eq_one_left p1 hab;have hb1:b=1:=by rw [ha] at hab; omega
   subst ha; subst hb1;have h1:aR n c y (e s)=e k:=by rw [hr]; funext j; simp
   have h2:aR n (tr c) y (e s)=e k:=by rw [hx]; funext j; simp
   refine ⟨y,hy,by simp,List.sublist_cons_self _ _,?_⟩;have h3:=comm h hy hs hk h1 h2;have h4:Eqv n c (k::(y++[s])) ([k]++(k::y)):=(Eqv.refl [k]).app h3;have h5:Eqv n c ([k,k]++y) ([]++y):=(Eqv.two h hk).app (Eqv.refl y);exact h4.trans h5
  ·obtain ⟨w',h1,h2,h3,h4⟩:=zD0 h hs hy hn';refine ⟨k::w',fun j hj=>?_,by simp; omega,List.Sublist.cons_cons k h3,(Eqv.refl [k]).app h4⟩;rcases List.mem_cons.1 hj with rfl | hj
   ·exact hk
   ·exact h1 j hj
def Part (n:Nat) (c:Nat→Nat→Int) (m:Nat→Int) (w:List Nat):Prop:=∃x,x.Sublist w∧∀k,k<n→aW c x one k=m k
theorem part_lets {w x:List Nat} (hw:Lets n w) (hx:x.Sublist w):Lets n x:=fun j hj=>hw j (hx.subset hj)
end Cox
end Go.Proofs.YtlchafedbnihoaaGreatDoor
