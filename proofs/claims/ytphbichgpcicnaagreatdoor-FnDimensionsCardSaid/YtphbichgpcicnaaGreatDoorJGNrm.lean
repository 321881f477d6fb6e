/- Cartan matrices: what words do to roots, coroots and weights; the signs of roots; exchange. Plain: no program. -/
import Derived.Test.YtphbichgpcicnaaGreatDoorJGCart
namespace Go.Proofs.YtphbichgpcicnaaGreatDoor.Cox
def dotN (f g:Nat→Int):Nat→Int
 | 0=>0
 | n+1=>dotN f g n+f n*g n
structure Car (n:Nat) (c:Nat→Nat→Int):Prop where
 diag:∀i,i<n→c i i=2
 off:∀i j,i<n→j<n→i≠j→-3≤c i j∧c i j≤0
 zero:∀i j,i<n→j<n→c i j=0→c j i=0
def tr (c:Nat→Nat→Int):Nat→Nat→Int:=fun i j=>c j i
theorem Car.tr {n:Nat} {c:Nat→Nat→Int} (h:Car n c):Car n (tr c):=⟨h.diag,fun i j hi hj hn=>h.off j i hj hi (fun e=>hn e.symm),fun i j hi hj=>h.zero j i hj hi⟩
def e (i:Nat):Nat→Int:=fun j=>if j=i then 1 else 0
def sR (n:Nat) (c:Nat→Nat→Int) (i:Nat) (r:Nat→Int):Nat→Int:=fun j=>r j-dotN (c i) r n*e i j
def sW (c:Nat→Nat→Int) (i:Nat) (m:Nat→Int):Nat→Int:=fun k=>m k-m i*c k i
def aR (n:Nat) (c:Nat→Nat→Int):List Nat→(Nat→Int)→(Nat→Int)
 | [],r=>r
 | i::w,r=>sR n c i (aR n c w r)
def aW (c:Nat→Nat→Int):List Nat→(Nat→Int)→(Nat→Int)
 | [],m=>m
 | i::w,m=>sW c i (aW c w m)
def Lets (n:Nat) (w:List Nat):Prop:=∀i∈w,i<n
theorem dotN_add (f g h:Nat→Int) (a b:Int):∀n,dotN f (fun k=>a*g k+b*h k) n=a*dotN f g n+b*dotN f h n
 | 0=>by simp [dotN]
 | n+1=>by
  simp only [dotN,dotN_add f g h a b n];rw [Int.mul_add,Int.mul_add,Int.mul_add,Int.mul_left_comm (f n) a,Int.mul_left_comm (f n) b];omega
theorem dotN_comm (f g:Nat→Int):∀n,dotN f g n=dotN g f n
 | 0=>rfl
 | n+1=>by simp only [dotN,dotN_comm f g n,Int.mul_comm]
theorem zCh (f g h:Nat→Int) (b:Int) (n:Nat):dotN f (fun k=>g k-b*h k) n=dotN f g n-b*dotN f h n:=by
 have:=dotN_add f g h 1 (-b) n;rw [show (fun k=>g k-b*h k)=(fun k=>1*g k + -b*h k) from funext fun k=>by rw [Int.one_mul,Int.neg_mul]; omega,this,Int.one_mul,Int.neg_mul];omega
theorem zMN (f:Nat→Int) (i:Nat):∀n,n≤i→dotN f (e i) n=0
 | 0,_=>rfl
 | n+1,h=>by
  simp only [dotN,zMN f i n (by omega),e];rw [if_neg (by omega)];simp
theorem dotN_e (f:Nat→Int) (i:Nat):∀n,i<n→dotN f (e i) n=f i
 | 0,h=>by omega
 | n+1,h=>by
  simp only [dotN];by_cases hn:n=i
  ·subst hn;rw [zMN f n n (zWK _)];simp [e]
  ·rw [dotN_e f i n (by omega)];have:e i n=0:=by unfold e; rw [if_neg hn]
   simp [this]
theorem dotN_congr {f g h:Nat→Int}:∀{n:Nat},(∀k,k<n→g k=h k)→dotN f g n=dotN f h n
 | 0,_=>rfl
 | n+1,hh=>by
  simp only [dotN,dotN_congr (n:=n) (fun k hk=>hh k (by omega)),hh n (by omega)]
theorem zVf (n:Nat) (c:Nat→Nat→Int) (i:Nat) (f g:Nat→Int) (a b:Int):sR n c i (fun k=>a*f k+b*g k)=fun k=>a*sR n c i f k+b*sR n c i g k:=by
 funext k;simp only [sR,dotN_add];rw [Int.mul_sub,Int.mul_sub,Int.add_mul,Int.mul_assoc,Int.mul_assoc];omega
theorem zEk (n:Nat) (c:Nat→Nat→Int) (f g:Nat→Int) (a b:Int):∀w,aR n c w (fun k=>a*f k+b*g k)=fun k=>a*aR n c w f k+b*aR n c w g k
 | []=>rfl
 | i::w=>by simp only [aR,zEk n c f g a b w,zVf]
theorem zU3 (n:Nat) (c:Nat→Nat→Int) (f g:Nat→Int) (b:Int) (w:List Nat):aR n c w (fun k=>f k-b*g k)=fun k=>aR n c w f k-b*aR n c w g k:=by
 have:=zEk n c f g 1 (-b) w;rw [show (fun k=>f k-b*g k)=(fun k=>1*f k + -b*g k) from funext fun k=>by rw [Int.one_mul,Int.neg_mul]; omega,this];funext k;rw [Int.one_mul,Int.neg_mul]; omega
theorem zVg (c:Nat→Nat→Int) (i:Nat) (f g:Nat→Int) (a b:Int):sW c i (fun k=>a*f k+b*g k)=fun k=>a*sW c i f k+b*sW c i g k:=by
 funext k;simp only [sW];rw [Int.mul_sub,Int.mul_sub,Int.add_mul,Int.mul_assoc,Int.mul_assoc];omega
theorem zOK (c:Nat→Nat→Int) (f g:Nat→Int) (a b:Int):∀w,aW c w (fun k=>a*f k+b*g k)=fun k=>a*aW c w f k+b*aW c w g k
 | []=>rfl
 | i::w=>by simp only [aW,zOK c f g a b w,zVg]
theorem zU4 (c:Nat→Nat→Int) (f g:Nat→Int) (b:Int) (w:List Nat):aW c w (fun k=>f k-b*g k)=fun k=>aW c w f k-b*aW c w g k:=by
 have:=zOK c f g 1 (-b) w;rw [show (fun k=>f k-b*g k)=(fun k=>1*f k + -b*g k) from funext fun k=>by rw [Int.one_mul,Int.neg_mul]; omega,this];funext k;rw [Int.one_mul,Int.neg_mul]; omega
theorem zBZ (n:Nat) (c:Nat→Nat→Int) (r:Nat→Int) (w':List Nat):∀w,aR n c (w++w') r=aR n c w (aR n c w' r)
 | []=>rfl
 | i::w=>by simp only [List.cons_append,aR,zBZ n c r w' w]
theorem zCj (c:Nat→Nat→Int) (r:Nat→Int) (w':List Nat):∀w,aW c (w++w') r=aW c w (aW c w' r)
 | []=>rfl
 | i::w=>by simp only [List.cons_append,aW,zCj c r w' w]
section
variable {n:Nat} {c:Nat→Nat→Int}
theorem sR_two (h:Car n c) {i:Nat} (hi:i<n) (r:Nat→Int):sR n c i (sR n c i r)=r:=by
 funext k;have:dotN (c i) (sR n c i r) n = - dotN (c i) r n:=by
  unfold sR;rw [zCh,dotN_e _ _ _ hi,h.diag i hi];omega
 show sR n c i r k-dotN (c i) (sR n c i r) n*e i k=r k;rw [this,Int.neg_mul];simp only [sR];omega
theorem sW_two (h:Car n c) {i:Nat} (hi:i<n) (m:Nat→Int):sW c i (sW c i m)=m:=by
 funext k;simp only [sW,h.diag i hi];rw [show m i-m i*2 = - m i by omega,Int.neg_mul];omega
def bil (n:Nat) (c:Nat→Nat→Int) (x r:Nat→Int):Int:=dotN x (fun i=>dotN (c i) r n) n
theorem zSr {i:Nat} (hi:i<n) (x r:Nat→Int):bil n c (sR n (tr c) i x) r=bil n c x (sR n c i r):=by
 have h1:bil n c (sR n (tr c) i x) r=bil n c x r-dotN (tr c i) x n*dotN (c i) r n:=by
  unfold bil;rw [dotN_comm];unfold sR;rw [zCh,dotN_comm,dotN_e _ _ _ hi]
 have h2:bil n c x (sR n c i r)=bil n c x r-dotN (c i) r n*dotN x (fun k=>c k i) n:=by
  unfold bil sR;rw [show (fun k=>dotN (c k) (fun j=>r j-dotN (c i) r n*e i j) n)=(fun k=>dotN (c k) r n-dotN (c i) r n*c k i) from funext fun k=>by rw [zCh,dotN_e _ _ _ hi],zCh]
 rw [h1,h2,Int.mul_comm,dotN_comm x];rfl
theorem zCw (h:Car n c) (x r:Nat→Int):∀{w:List Nat},Lets n w→bil n c (aR n (tr c) w x) (aR n c w r)=bil n c x r
 | [],_=>rfl
 | i::w,hw=>by
  have hi:i<n:=hw i (by simp);simp only [aR];rw [zSr hi,sR_two h hi];exact zCw h x r fun j hj=>hw j (by simp [hj])
theorem zEP {i j:Nat} (hi:i<n) (hj:j<n):bil n c (e i) (e j)=c i j:=by
 unfold bil;rw [dotN_comm,dotN_e _ _ _ hi,dotN_e _ _ _ hj]
theorem zOP {i:Nat} (hi:i<n) (r:Nat→Int):bil n c (e i) r=dotN (c i) r n:=by
 unfold bil;rw [dotN_comm,dotN_e _ _ _ hi]
theorem wt_adj {i:Nat} (x m:Nat→Int) (hi:i<n):dotN (sR n (tr c) i x) m n=dotN x (sW c i m) n:=by
 have h1:dotN (sR n (tr c) i x) m n=dotN x m n-dotN (tr c i) x n*m i:=by
  rw [dotN_comm];unfold sR;rw [zCh,dotN_comm,dotN_e _ _ _ hi]
 have h2:dotN x (sW c i m) n=dotN x m n-m i*dotN x (fun k=>c k i) n:=by
  unfold sW;rw [zCh]
 rw [h1,h2,Int.mul_comm,dotN_comm x (fun k=>c k i)];rfl
theorem zLh (h:Car n c) (x m:Nat→Int):∀{w:List Nat},Lets n w→dotN (aR n (tr c) w x) (aW c w m) n=dotN x m n
 | [],_=>rfl
 | i::w,hw=>by
  have hi:i<n:=hw i (by simp);simp only [aR,aW];rw [wt_adj _ _ hi,sW_two h hi];exact zLh h x m fun j hj=>hw j (by simp [hj])
def wt (n:Nat) (c:Nat→Nat→Int) (r:Nat→Int):Nat→Int:=fun k=>dotN (c k) r n
theorem wt_s {i:Nat} (hi:i<n) (r:Nat→Int):wt n c (sR n c i r)=sW c i (wt n c r):=by
 funext k;unfold wt sW sR;rw [zCh,dotN_e _ _ _ hi]
theorem wt_a (r:Nat→Int):∀{w:List Nat},Lets n w→wt n c (aR n c w r)=aW c w (wt n c r)
 | [],_=>rfl
 | i::w,hw=>by
  have hi:i<n:=hw i (by simp);simp only [aR,aW];rw [wt_s hi,wt_a r fun j hj=>hw j (by simp [hj])]
structure Eqv (n:Nat) (c:Nat→Nat→Int) (w w':List Nat):Prop where
 r:∀r,aR n c w r=aR n c w' r
 x:∀x,aR n (tr c) w x=aR n (tr c) w' x
 m:∀m,aW c w m=aW c w' m
theorem Eqv.refl (w:List Nat):Eqv n c w w:=⟨fun _=>rfl,fun _=>rfl,fun _=>rfl⟩
theorem Eqv.symm {a b:List Nat} (h:Eqv n c a b):Eqv n c b a:=⟨fun r=>(h.r r).symm,fun r=>(h.x r).symm,fun r=>(h.m r).symm⟩
theorem Eqv.trans {a b d:List Nat} (h:Eqv n c a b) (k:Eqv n c b d):Eqv n c a d:=⟨fun r=>(h.r r).trans (k.r r),fun r=>(h.x r).trans (k.x r),fun r=>(h.m r).trans (k.m r)⟩
theorem Eqv.app {a b a' b':List Nat} (h:Eqv n c a b) (k:Eqv n c a' b'):Eqv n c (a++a') (b++b') :=
 ⟨fun r=>by rw [zBZ,zBZ,h.r,k.r],fun r=>by rw [zBZ,zBZ,h.x,k.x],fun r=>by rw [zCj,zCj,h.m,k.m]⟩
theorem Eqv.two (h:Car n c) {i:Nat} (hi:i<n):Eqv n c [i,i] []:=⟨fun r=>sR_two h hi r,fun r=>sR_two h.tr hi r,fun r=>sW_two h hi r⟩
theorem zOe (h:Car n c) {y:List Nat} {s k:Nat} (hy:Lets n y) (hs:s<n) (hk:k<n) (h1:aR n c y (e s)=e k) (h2:aR n (tr c) y (e s)=e k) (r:Nat→Int):aR n c (y++[s]) r=aR n c (k::y) r:=by
 rw [zBZ];show aR n c y (sR n c s r)=sR n c k (aR n c y r);unfold sR;rw [zU3,h1,<-zOP hk,<-zOP hs,<-h2,zCw h _ _ hy]
theorem zVP (h:Car n c) {y:List Nat} {s k:Nat} (hy:Lets n y) (hs:s<n) (hk:k<n) (h1:aR n c y (e s)=e k) (h2:aR n (tr c) y (e s)=e k) (m:Nat→Int):aW c (y++[s]) m=aW c (k::y) m:=by
 rw [zCj];show aW c y (sW c s m)=sW c k (aW c y m);have e1:∀(i:Nat) (hi:i<n),(fun a=>c a i)=wt n c (e i):=fun i hi=>funext fun a=>by unfold wt; rw [dotN_e _ _ _ hi]
 have e2:∀(i:Nat) (hi:i<n) (v:Nat→Int),v i=dotN (e i) v n:=fun i hi v=>by rw [dotN_comm,dotN_e _ _ _ hi]
 have e3:m s=aW c y m k:=by rw [e2 s hs m,e2 k hk (aW c y m),<-h2,zLh h _ _ hy]
 unfold sW;have e4:=zU4 c m (fun a=>c a s) (m s) y;rw [e4,e1 s hs,<-wt_a _ hy,h1,<-e1 k hk,e3]
theorem comm (h:Car n c) {y:List Nat} {s k:Nat} (hy:Lets n y) (hs:s<n) (hk:k<n) (h1:aR n c y (e s)=e k) (h2:aR n (tr c) y (e s)=e k):Eqv n c (y++[s]) (k::y) :=
 ⟨zOe h hy hs hk h1 h2,zOe h.tr hy hs hk h2 h1,zVP h hy hs hk h1 h2⟩
def Pos (n:Nat) (r:Nat→Int):Prop:=∀k,k<n→0≤r k
def Neg (n:Nat) (r:Nat→Int):Prop:=∀k,k<n→r k≤0
def PosA (n:Nat) (c:Nat→Nat→Int) (w:List Nat) (s:Nat):Prop:=Pos n (aR n c w (e s))∧Pos n (aR n (tr c) w (e s))
def NegA (n:Nat) (c:Nat→Nat→Int) (w:List Nat) (s:Nat):Prop:=Neg n (aR n c w (e s))∧Neg n (aR n (tr c) w (e s))
def Coh (n:Nat) (c:Nat→Nat→Int) (w:List Nat) (s:Nat):Prop:=PosA n c w s∨NegA n c w s
theorem zD5 {j:Nat} (hj:n≤j) (r:Nat→Int):∀{w:List Nat},Lets n w→aR n c w r j=r j
 | [],_=>rfl
 | i::w,hw=>by
  have hi:i<n:=hw i (by simp);have:e i j=0:=by unfold e; rw [if_neg (by omega)]
  simp only [aR,sR,this,Int.mul_zero,Int.sub_zero];exact zD5 hj r fun j hj=>hw j (by simp [hj])
theorem zCU {k:Nat} {r:Nat→Int} (h1:Pos n r) (h2:Neg n (sR n c k r)) (h0:∀j,n≤j→r j=0):r=fun j=>r k*e k j:=by
 funext j;by_cases hjk:j=k
 ·subst hjk; simp [e]
 ·have e0:e k j=0:=by unfold e; rw [if_neg hjk]
  rw [e0,Int.mul_zero];by_cases hj:j<n
  ·have a1:=h1 j hj;have a2:=h2 j hj;simp only [sR,e0,Int.mul_zero,Int.sub_zero] at a2;omega
  ·exact h0 j (by omega)
theorem zGc {s:Nat} (hs:s<n) {j:Nat} (hj:n≤j):e s j=0:=by unfold e; rw [if_neg (by omega)]
theorem dotN_scale (f g:Nat→Int) (a:Int) (n:Nat):dotN f (fun k=>a*g k) n=a*dotN f g n:=by
 have:=dotN_add f g g a 0 n;simpa using this
theorem zFp (x r:Nat→Int) (a b:Int):bil n c (fun j=>a*x j) (fun j=>b*r j)=a*b*bil n c x r:=by
 unfold bil;rw [dotN_comm,dotN_scale,dotN_comm];rw [show (fun i=>dotN (c i) (fun j=>b*r j) n)=(fun i=>b*dotN (c i) r n) from funext fun i=>dotN_scale _ _ _ _,dotN_scale,Int.mul_assoc]
theorem zCi (h:Car n c) {s:Nat} (hs:s<n):∀{w:List Nat},Lets n w→(∀y,y.length<w.length→Lets n y→Coh n c y s)→NegA n c w s→∃w',Lets n w'∧w'.length+1=w.length∧Eqv n c (w++[s]) w'
 | [],_,_,hn=>by
  have:=hn.1 s hs;simp [aR,e] at this
 | k::y,hw,hc,hn=>by
  have hk:k<n:=hw k (by simp);have hy:Lets n y:=fun j hj=>hw j (by simp [hj]);rcases hc y (by simp) hy with hp | hn'
  ·have hr:=zCU hp.1 hn.1 (fun j hj=>by rw [zD5 hj _ hy,zGc hs hj]);have hx:=zCU (c:=tr c) hp.2 hn.2 (fun j hj=>by rw [zD5 hj _ hy,zGc hs hj]);have hb:=zCw h (e s) (e s) hy;rw [hr,hx,zFp,zEP hk hk,zEP hs hs,h.diag k hk,h.diag s hs] at hb;have p1:=hp.1 k hk;have p2:=hp.2 k hk;generalize aR n c y (e s) k=a at *;generalize aR n (tr c) y (e s) k=b at *;have hab:b*a=1:=by omega
   have ha:a=1:=Int.eq_one_of_mul_eq_one_left p1 hab;have hb1:b=1:=by rw [ha] at hab; omega
   subst ha; subst hb1;have h1:aR n c y (e s)=e k:=by rw [hr]; funext j; simp
   have h2:aR n (tr c) y (e s)=e k:=by rw [hx]; funext j; simp
   refine ⟨y,hy,by simp,?_⟩;have h3:=comm h hy hs hk h1 h2;have h4:Eqv n c (k::(y++[s])) ([k]++(k::y)):=(Eqv.refl [k]).app h3;have h5:Eqv n c ([k,k]++y) ([]++y):=(Eqv.two h hk).app (Eqv.refl y);exact h4.trans h5
  ·obtain ⟨w',h1,h2,h3⟩:=zCi h hs hy (fun z hz hz'=>hc z (by simp; omega) hz') hn';refine ⟨k::w',fun j hj=>?_,by simp; omega,(Eqv.refl [k]).app h3⟩;rcases List.mem_cons.1 hj with rfl | hj
   ·exact hk
   ·exact h1 j hj
end
end Go.Proofs.YtphbichgpcicnaaGreatDoor.Cox
namespace Go.Proofs.YtphbichgpcicnaaGreatDoor.Cox
structure St where
 a:Int
 b:Int
 a':Int
 b':Int
deriving DecidableEq
def stS (p q:Int) (x:St):St:=⟨-x.a+p*x.b,x.b,-x.a'+q*x.b',x.b'⟩
def stT (p q:Int) (x:St):St:=⟨x.a,-x.b+q*x.a,x.a',-x.b'+p*x.a'⟩
def St.neg (x:St):St:=⟨-x.a,-x.b,-x.a',-x.b'⟩
def up (p q:Int):Nat→St
 | 0=>⟨1,0,1,0⟩
 | k+1=>if k % 2=0 then stT p q (up p q k) else stS p q (up p q k)
theorem St.ext' {x y:St} (h1:x.a=y.a) (h2:x.b=y.b) (h3:x.a'=y.a') (h4:x.b'=y.b'):x=y:=by
 cases x; cases y; simp_all
theorem zUS (p q:Int) (x:St):stS p q (stS p q x)=x:=by
 apply St.ext' <;> simp only [stS] <;> omega
theorem zUU (p q:Int) (x:St):stT p q (stT p q x)=x:=by
 apply St.ext' <;> simp only [stT] <;> omega
theorem zUR (p q:Int) (x:St):stS p q x.neg=(stS p q x).neg:=by
 apply St.ext' <;> simp only [stS,St.neg,Int.mul_neg] <;> omega
theorem zUT (p q:Int) (x:St):stT p q x.neg=(stT p q x).neg:=by
 apply St.ext' <;> simp only [stT,St.neg,Int.mul_neg] <;> omega
theorem zKr (x:St):x.neg.neg=x:=by
 apply St.ext' <;> simp only [St.neg] <;> omega
def zE4 (p q:Int) (x:St):Prop:=∃k,x=up p q k∨x=(up p q k).neg
theorem zUE {p q:Int} {x:St} (h:zE4 p q x):zE4 p q (stT p q x):=by
 have key:∀k,zE4 p q (stT p q (up p q k)):=by
  intro k;by_cases hk:k % 2=0
  ·exact ⟨k+1,.inl (by simp [up,hk])⟩
  ·obtain ⟨j,rfl⟩:∃j,k=j+1:=⟨k-1,by omega⟩;have hj:j % 2=0:=by omega
   exact ⟨j,.inl (by simp only [up,hj,if_true]; exact zUU p q _)⟩
 obtain ⟨k,rfl | rfl⟩:=h
 ·exact key k
 ·rw [zUT];obtain ⟨j,h | h⟩:=key k
  ·exact ⟨j,.inr (by rw [h])⟩
  ·exact ⟨j,.inl (by rw [h,zKr])⟩
theorem zUD {p q:Int} {x:St} (h:zE4 p q x):zE4 p q (stS p q x):=by
 have key:∀k,zE4 p q (stS p q (up p q k)):=by
  intro k;rcases k with _ | j
  ·exact ⟨0,.inr (by apply St.ext' <;> simp [stS,up,St.neg])⟩
  ·by_cases hk:j % 2=0
   ·have hj:(j+1) % 2≠0:=by omega
    exact ⟨j+2,.inl (by rw [show up p q (j+2)=if (j+1) % 2=0 then stT p q (up p q (j+1)) else stS p q (up p q (j+1)) from rfl,if_neg hj])⟩
   ·exact ⟨j,.inl (by simp only [up,hk,if_false]; exact zUS p q _)⟩
 obtain ⟨k,rfl | rfl⟩:=h
 ·exact key k
 ·rw [zUR];obtain ⟨j,h | h⟩:=key k
  ·exact ⟨j,.inr (by rw [h])⟩
  ·exact ⟨j,.inl (by rw [h,zKr])⟩
def Coh4 (x:St):Prop:=(0≤x.a∧0≤x.b∧0≤x.a'∧0≤x.b')∨(x.a≤0∧x.b≤0∧x.a'≤0∧x.b'≤0)
instance (x:St):Decidable (Coh4 x):=by unfold Coh4; infer_instance
theorem zNB (p q:Int) (k:Nat):up p q (k+1)=if k % 2=0 then stT p q (up p q k) else stS p q (up p q k):=rfl
theorem zQM {p q:Int} (h:up p q 24=up p q 0) (k:Nat):up p q (24+k)=up p q k:=by
 induction k with
 | zero=>exact h
 | succ k ih =>
  have e1:(24+k) % 2=k % 2:=by omega
  rw [<-Nat.add_assoc,zNB,zNB,e1,ih]
theorem zTL {p q:Int} (h:up p q 24=up p q 0) (h2:∀k,k<24→Coh4 (up p q k)) (k:Nat):Coh4 (up p q k):=by
 induction k using Nat.strongRecOn with
 | _ k ih =>
  by_cases hk:k<24
  ·exact h2 k hk
  ·have:=ih (k-24) (by omega);rw [<-zQM h (k-24),show 24+(k-24)=k by omega] at this;exact this
theorem zMG {p q:Int} (hp:2≤p∧p≤3) (hq:2≤q∧q≤3):∀k,0≤(up p q k).a∧0≤(up p q k).b∧0≤(up p q k).a'∧0≤(up p q k).b' ∧
  (k % 2=0→2*(up p q k).b≤q*(up p q k).a∧2*(up p q k).b'≤p*(up p q k).a')∧(k % 2=1→2*(up p q k).a≤p*(up p q k).b∧2*(up p q k).a'≤q*(up p q k).b')
 | 0=>by
  simp only [up];omega
 | k+1=>by
  obtain ⟨h1,h2,h3,h4,h5,h6⟩:=zMG hp hq k;by_cases hk:k % 2=0
  ·obtain ⟨h5,h7⟩:=h5 hk;simp only [up,hk,if_true,stT];generalize up p q k=x at *;have cp:p=2∨p=3:=by omega
   have cq:q=2∨q=3:=by omega
   rcases cp with rfl | rfl <;> rcases cq with rfl | rfl <;> omega
  ·obtain ⟨h6,h7⟩:=h6 (by omega);simp only [up,hk,if_false,stS];generalize up p q k=x at *;have cp:p=2∨p=3:=by omega
   have cq:q=2∨q=3:=by omega
   rcases cp with rfl | rfl <;> rcases cq with rfl | rfl <;> omega
theorem zOc {p q:Int} (hp:0≤p∧p≤3) (hq:0≤q∧q≤3) (h0:p=0↔q=0) (k:Nat):Coh4 (up p q k):=by
 by_cases h4:2≤p∧2≤q
 ·have:=zMG ⟨h4.1,hp.2⟩ ⟨h4.2,hq.2⟩ k;exact .inl ⟨this.1,this.2.1,this.2.2.1,this.2.2.2.1⟩
 ·have hc:(p=0∧q=0)∨(p=1∧q=1)∨(p=1∧q=2)∨(p=1∧q=3)∨(p=2∧q=1)∨(p=3∧q=1):=by omega
  rcases hc with ⟨rfl,rfl⟩ | ⟨rfl,rfl⟩ | ⟨rfl,rfl⟩ | ⟨rfl,rfl⟩ | ⟨rfl,rfl⟩ | ⟨rfl,rfl⟩ <;> exact zTL (by decide) (by decide) k
def run (p q:Int):List Bool→St
 | []=>⟨1,0,1,0⟩
 | true::x=>stS p q (run p q x)
 | false::x=>stT p q (run p q x)
theorem zUI {p q:Int} (hp:0≤p∧p≤3) (hq:0≤q∧q≤3) (h0:p=0↔q=0) (x:List Bool):Coh4 (run p q x):=by
 have h:zE4 p q (run p q x):=by
  induction x with
  | nil=>exact ⟨0,.inl rfl⟩
  | cons b x ih =>
   cases b
   ·exact zUE ih
   ·exact zUD ih
 obtain ⟨k,h | h⟩:=h
 ·rw [h]; exact zOc hp hq h0 k
 ·rw [h];have:=zOc hp hq h0 k;unfold Coh4 at *;simp only [St.neg];omega
end Go.Proofs.YtphbichgpcicnaaGreatDoor.Cox
namespace Go.Proofs.YtphbichgpcicnaaGreatDoor.Cox
section
variable {n:Nat} {c:Nat→Nat→Int}
def toW (s t:Nat) (x:List Bool):List Nat:=x.map fun b=>if b then s else t
theorem zMo {s t:Nat} (hs:s<n) (ht:t<n) (a b:Int) (i:Nat):sR n c i (fun j=>a*e s j+b*e t j)=fun j=>(a*e s j+b*e t j)-(a*c i s+b*c i t)*e i j:=by
 unfold sR;rw [dotN_add,dotN_e _ _ _ hs,dotN_e _ _ _ ht]
theorem zRz (h:Car n c) {s t:Nat} (hs:s<n) (ht:t<n) (x:List Bool) :
  aR n c (toW s t x) (e s)=(fun j=>(run (-c s t) (-c t s) x).a*e s j+(run (-c s t) (-c t s) x).b*e t j) ∧
  aR n (tr c) (toW s t x) (e s)=(fun j=>(run (-c s t) (-c t s) x).a'*e s j+(run (-c s t) (-c t s) x).b'*e t j):=by
 induction x with
 | nil=>exact ⟨by funext j; simp [toW,aR,run],by funext j; simp [toW,aR,run]⟩
 | cons b x ih =>
  obtain ⟨h1,h2⟩:=ih;cases b
  ·have e1:toW s t (false::x)=t::toW s t x:=rfl;rw [e1];simp only [aR,h1,h2,run,stT,zMo hs ht,h.diag t ht,show tr c t s=c s t from rfl,show tr c t t=c t t from rfl];generalize run (-c s t) (-c t s) x=y;refine ⟨funext fun j=>?_,funext fun j=>?_⟩
   ·rw [Int.add_mul,Int.add_mul,Int.neg_mul,Int.neg_mul,Int.mul_assoc y.b,Int.mul_left_comm y.b,Int.mul_comm (c t s) y.a,Int.neg_mul]; omega
   ·rw [Int.add_mul,Int.add_mul,Int.neg_mul,Int.neg_mul,Int.mul_assoc y.b',Int.mul_left_comm y.b',Int.mul_comm (c s t) y.a',Int.neg_mul]; omega
  ·have e1:toW s t (true::x)=s::toW s t x:=rfl;rw [e1];simp only [aR,h1,h2,run,stS,zMo hs ht,h.diag s hs,show tr c s t=c t s from rfl,show tr c s s=c s s from rfl];generalize run (-c s t) (-c t s) x=y;refine ⟨funext fun j=>?_,funext fun j=>?_⟩
   ·rw [Int.add_mul,Int.add_mul,Int.neg_mul,Int.neg_mul,Int.mul_assoc y.a,Int.mul_left_comm y.a,Int.mul_comm (c s t) y.b,Int.neg_mul]; omega
   ·rw [Int.add_mul,Int.add_mul,Int.neg_mul,Int.neg_mul,Int.mul_assoc y.a',Int.mul_left_comm y.a',Int.mul_comm (c t s) y.b',Int.neg_mul]; omega
theorem zMF {w w':List Nat} {s:Nat} (h:Eqv n c w w') (k:Coh n c w' s):Coh n c w s:=by
 unfold Coh PosA NegA at *;rw [h.r,h.x];exact k
theorem zLT {v x:List Nat} {s:Nat} (h:Car n c) (hs:s<n) (hv:Lets n v) (hc:∀y,y.length<v.length→Lets n y→Coh n c y s) (hn:NegA n c v s) :
  ∃v',Lets n v'∧v'.length+1=v.length∧Eqv n c (v++x) (v'++(s::x)):=by
 obtain ⟨v',h1,h2,h3⟩:=zCi h hs hv hc hn;refine ⟨v',h1,h2,?_⟩;have h4:Eqv n c ((v++[s])++(s::x)) (v'++(s::x)):=h3.app (Eqv.refl _);have h5:Eqv n c (v++([s,s]++x)) (v++([]++x)):=(Eqv.refl v).app ((Eqv.two h hs).app (Eqv.refl x));have e1:(v++[s])++(s::x)=v++([s,s]++x):=by simp
 rw [e1] at h4;exact h5.symm.trans h4
theorem zTM (h:Car n c) {s t:Nat} (hs:s<n) (ht:t<n) (hst:s≠t) {N:Nat} (ih:∀w,w.length≤N→Lets n w→∀i,i<n→Coh n c w i) :
  ∀(L:Nat) (v:List Nat) (x:List Bool),v.length=L→L≤N→Lets n v→Coh n c (v++toW s t x) s:=by
 intro L
 induction L using Nat.strongRecOn with
 | _ L ihL =>
  intro v x hvl hL hv;have hv':v.length≤N:=by omega
  rcases ih v hv' hv s hs with ps | ns
  ·rcases ih v hv' hv t ht with pt | nt
   ·have hp:=h.off s t hs ht hst;have hq:=h.off t s ht hs (fun e=>hst e.symm);have hc:=zUI (p:=-c s t) (q:=-c t s) (by omega) (by omega) (by
     have h1:=h.zero s t hs ht;have h2:=h.zero t s ht hs;omega) x
    obtain ⟨h1,h2⟩:=zRz h hs ht x;unfold Coh PosA NegA;rw [zBZ,zBZ,h1,h2,zEk,zEk];generalize run (-c s t) (-c t s) x=y at *;rcases hc with ⟨a1,a2,a3,a4⟩ | ⟨a1,a2,a3,a4⟩
    ·refine .inl ⟨fun k hk=>?_,fun k hk=>?_⟩
     ·have:=Int.mul_nonneg a1 (ps.1 k hk);have:=Int.mul_nonneg a2 (pt.1 k hk);show 0≤_*_+_*_;omega
     ·have:=Int.mul_nonneg a3 (ps.2 k hk);have:=Int.mul_nonneg a4 (pt.2 k hk);show 0≤_*_+_*_;omega
    ·refine .inr ⟨fun k hk=>?_,fun k hk=>?_⟩
     ·have:=Int.mul_nonneg (a:=-y.a) (by omega) (ps.1 k hk);have:=Int.mul_nonneg (a:=-y.b) (by omega) (pt.1 k hk);rw [Int.neg_mul] at *;show y.a*_+y.b*_≤0;omega
     ·have:=Int.mul_nonneg (a:=-y.a') (by omega) (ps.2 k hk);have:=Int.mul_nonneg (a:=-y.b') (by omega) (pt.2 k hk);rw [Int.neg_mul] at *;show y.a'*_+y.b'*_≤0;omega
   ·obtain ⟨v',h1,h2,h3⟩:=zLT (x:=toW s t x) h ht hv (fun y hy hy'=>ih y (by omega) hy' t ht) nt;exact zMF h3 (ihL v'.length (by omega) v' (false::x) rfl (by omega) h1)
  ·obtain ⟨v',h1,h2,h3⟩:=zLT (x:=toW s t x) h hs hv (fun y hy hy'=>ih y (by omega) hy' s hs) ns;exact zMF h3 (ihL v'.length (by omega) v' (true::x) rfl (by omega) h1)
theorem zE9 (h:Car n c):∀(N:Nat) (w:List Nat),w.length≤N→Lets n w→∀s,s<n→Coh n c w s
 | 0,w,hw,_,s,hs=>by
  have:w=[]:=List.eq_nil_of_length_eq_zero (by omega);subst this;refine .inl ⟨fun k _=>?_,fun k _=>?_⟩ <;> (simp only [aR,e]; split <;> omega)
 | N+1,w,hw,hl,s,hs=>by
  rcases List.eq_nil_or_concat w with rfl | ⟨v,t,rfl⟩
  ·exact zE9 h N [] (by simp) hl s hs
  ·have hvl:v.length≤N:=by simp at hw; omega
   have hv:Lets n v:=fun i hi=>hl i (by simp [hi]);have ht:t<n:=hl t (by simp);by_cases hst:s=t
   ·subst hst;have hsub:∀(d:Nat→Nat→Int),Car n d→aR n d (v++[s]) (e s)=fun k=>- aR n d v (e s) k:=by
     intro d hd;rw [zBZ];show aR n d v (sR n d s (e s))=_;have:sR n d s (e s)=fun k=>(-1)*e s k+0*e s k:=by
      funext k;unfold sR;rw [dotN_e _ _ _ hs,hd.diag s hs];omega
     rw [this,zEk];funext k;omega
    simp only [List.concat_eq_append];unfold Coh PosA NegA;rw [hsub c h,hsub (tr c) h.tr];rcases zE9 h N v hvl hv s hs with hh | hh
    ·refine .inr ⟨fun k hk=>?_,fun k hk=>?_⟩
     ·have:=hh.1 k hk; show -_≤_; omega
     ·have:=hh.2 k hk; show -_≤_; omega
    ·refine .inl ⟨fun k hk=>?_,fun k hk=>?_⟩
     ·have:=hh.1 k hk; show _≤-_; omega
     ·have:=hh.2 k hk; show _≤-_; omega
   ·simp only [List.concat_eq_append];exact zTM h hs ht hst (fun w hw hl i hi=>zE9 h N w hw hl i hi) v.length v [false] rfl hvl hv
theorem coh (h:Car n c) {w:List Nat} (hw:Lets n w) {s:Nat} (hs:s<n):Coh n c w s:=zE9 h w.length w (zWK _) hw s hs
def one:Nat→Int:=fun _=>1
theorem zDC:∀{n:Nat} {x:Nat→Int},Pos n x→0≤dotN x one n∧(dotN x one n=0→∀k,k<n→x k=0)
 | 0,_,_=>⟨Int.le_refl _,fun _ k hk=>by omega⟩
 | n+1,x,h=>by
  obtain ⟨h1,h2⟩:=zDC (n:=n) (x:=x) (fun k hk=>h k (by omega));have h3:=h n (by omega);simp only [dotN,one,Int.mul_one] at *;refine ⟨by omega,fun h0 k hk=>?_⟩;by_cases hkn:k=n
  ·subst hkn; omega
  ·exact h2 (by omega) k (by omega)
theorem dotN_zero {x f:Nat→Int} {n:Nat} (h:∀k,k<n→x k=0):dotN x f n=0:=by
 rw [dotN_comm,dotN_congr (h:=fun k=>0*0) (fun k hk=>by rw [h k hk]; rfl)];have:=dotN_add f (fun _=>0) (fun _=>0) 0 0 n;simpa using this
theorem zAj {w:List Nat} (h:Lets n w):Lets n w.reverse:=fun i hi=>h i (by simpa using hi)
theorem zEl (h:Car n c) (m:Nat→Int):∀{w:List Nat},Lets n w→aW c w.reverse (aW c w m)=m
 | [],_=>rfl
 | i::w,hw=>by
  have hi:i<n:=hw i (by simp);rw [List.reverse_cons,zCj];show aW c w.reverse (sW c i (sW c i (aW c w m)))=m;rw [sW_two h hi];exact zEl h m fun j hj=>hw j (by simp [hj])
theorem zL4 (h:Car n c) (m:Nat→Int) {w:List Nat} (hw:Lets n w):aW c w (aW c w.reverse m)=m:=by
 have:=zEl h m (zAj hw);rwa [List.reverse_reverse] at this
theorem zFO (h:Car n c) {w:List Nat} (hw:Lets n w) {i:Nat} (hi:i<n) (m:Nat→Int):aW c w m i=dotN (aR n (tr c) w.reverse (e i)) m n:=by
 have h1:aW c w m i=dotN (e i) (aW c w m) n:=by rw [dotN_comm,dotN_e _ _ _ hi]
 rw [h1,<-zLh h (e i) (aW c w m) (zAj hw),zEl h m hw]
theorem image_step (h:Car n c) {w:List Nat} (hw:Lets n w) {i:Nat} (hi:i<n) :
  aW c w one i≠0∧(aW c w one i<0→∃w',Lets n w'∧w'.length+1=w.length∧sW c i (aW c w one)=aW c w' one):=by
 rw [zFO h hw hi];have hr:=zAj hw;have hb:=zCw h (e i) (e i) hr;rw [zEP hi hi,h.diag i hi] at hb;rcases coh h hr hi with hp | hn
 ·obtain ⟨h1,h2⟩:=zDC hp.2;refine ⟨fun h0=>?_,fun h0=>by omega⟩;have:=h2 h0;unfold bil at hb;rw [dotN_zero this] at hb;omega
 ·have hneg:Pos n (fun k=>-1*aR n (tr c) w.reverse (e i) k+0*0):=fun k hk=>by have:=hn.2 k hk; show 0≤-1*_+0*0; omega
  obtain ⟨h1,h2⟩:=zDC hneg;rw [dotN_comm,dotN_add one (aR n (tr c) w.reverse (e i)) (fun _=>0) (-1) 0 n,dotN_comm] at h1 h2;refine ⟨fun h0=>?_,fun _=>?_⟩
  ·have h3:=h2 (by rw [h0]; omega);unfold bil at hb;rw [dotN_zero (fun k hk=>by have:=h3 k hk; omega)] at hb;omega
  ·obtain ⟨w',a1,a2,a3⟩:=zCi h hi hr (fun y _ hy=>coh h hy hi) hn;refine ⟨w'.reverse,zAj a1,by simp at a2 ⊢; omega,?_⟩;show aW c (i::w) one=aW c w'.reverse one;have e1:(i::w)=(w.reverse++[i]).reverse:=by simp
   have hl:Lets n (w.reverse++[i]):=fun j hj=>by
    rcases List.mem_append.1 hj with h | h
    ·exact hr j h
    ·simp at h; omega
   rw [e1];have b1:=zL4 h one a1;have b2:=zEl h (aW c w'.reverse one) hl;rw [a3.m,b1] at b2;exact b2
end
end Go.Proofs.YtphbichgpcicnaaGreatDoor.Cox
namespace Go.Proofs.YtphbichgpcicnaaGreatDoor
open Go.RowKit
set_option maxRecDepth 20000
def zAH:List Int→Option Nat
 | []=>none
 | x::xs=>if x<0 then some 0 else (zAH xs).map (· + 1)
theorem zDD:∀{v:List Int},zAH v=none↔∀x∈v,0≤x
 | []=>by simp [zAH]
 | x::xs=>by
  unfold zAH;by_cases h:x<0
  ·simp [h]; intro h2; omega
  ·simp [h,zDD (v:=xs)]; omega
theorem zCa:∀{v:List Int} {i:Nat},zAH v=some i→∃x,v[i]? = some x∧x<0∧∀j,j<i→∀y,v[j]? = some y→0≤y
 | [],_,h=>by simp [zAH] at h
 | x::xs,i,h=>by
  unfold zAH at h;by_cases hx:x<0
  ·simp [hx] at h; subst h; exact ⟨x,rfl,hx,fun j hj=>by omega⟩
  ·simp [hx] at h;obtain ⟨k,hk,rfl⟩:=h;obtain ⟨y,h1,h2,h3⟩:=zCa hk;refine ⟨y,by simpa using h1,h2,fun j hj z hz=>?_⟩;cases j with
   | zero=>simp at hz; omega
   | succ j=>exact h3 j (by omega) z (by simpa using hz)
theorem zCJ {v:List Int} {i:Nat} (h:zAH v=some i):i<v.length:=by
 obtain ⟨x,h1,_⟩:=zCa h;exact (zWI h1).1
def nf (c:List (List Int)):Nat→List Int→List Int
 | 0,_=>[]
 |f+1,v=>match zAH v with
  | none=>[]
  | some i=>(i:Int)::nf c f (refl c i v)
def toN (w:List Int):List Nat:=w.map Int.toNat
def zAf (c:List (List Int)) (w:List Int):List Int:=act c w (List.replicate c.length 1)
def zCE (c:List (List Int)) (w:List Int):List Int:=nf c 30 (zAf c w)
theorem CartanP.car {c:List (List Int)} (h:CartanP c):Cox.Car c.length (ent c):=by
 refine ⟨fun i hi=>?_,fun i j hi hj hn=>?_,fun i j hi hj h0=>?_⟩
 ·have:=h.ok i i hi hi;simpa [okE] using this
 ·have:=h.ok i j hi hj;simp [okE,hn] at this;exact this.1
 ·by_cases hn:i=j
  ·subst hn; exact h0
  ·have:=h.ok i j hi hj;simp [okE,hn] at this;have:=this.2;rw [h0] at this;simpa using this
structure Im (c:List (List Int)) (v:List Int) (m:Nat):Prop where
 len:v.length=c.length
 word:∃w:List Nat,Cox.Lets c.length w∧w.length=m∧∀k,k<c.length→num v k=Cox.aW (ent c) w Cox.one k
theorem zRS (m:Nat):(1:Int)≤4 ^ m:=by
 have:=Nat.one_le_two_pow (n:=0)
 induction m with
 | zero=>simp
 | succ m ih=>rw [Int.pow_succ]; omega
theorem zE5 {n:Nat} {c:Nat→Nat→Int} (h:Cox.Car n c):∀{w:List Nat},Cox.Lets n w→∀k,k<n→-(4 ^ w.length)≤Cox.aW c w Cox.one k∧Cox.aW c w Cox.one k≤4 ^ w.length
 | [],_,k,_=>by simp [Cox.aW,Cox.one]
 | i::w,hw,k,hk=>by
  have hi:i<n:=hw i (by simp);have hw':Cox.Lets n w:=fun j hj=>hw j (by simp [hj]);have b1:=zE5 h hw' k hk;have b2:=zE5 h hw' i hi;simp only [Cox.aW,Cox.sW,List.length_cons,Int.pow_succ];generalize Cox.aW c w Cox.one i=x at *;generalize Cox.aW c w Cox.one k=y at *;have hpos:=zRS w.length;generalize (4:Int) ^ w.length=B at *;by_cases hik:k=i
  ·subst hik;rw [h.diag k hk];have:x=y∨True:=.inr trivial;omega
  ·have ho:=h.off k i hk hi hik;have hc:c k i=0∨c k i = -1∨c k i = -2∨c k i = -3:=by omega
   rcases hc with e | e | e | e <;> rw [e] <;> omega
theorem zGu {x:Int} (h1:-9223372036854775808≤x) (h2:x≤9223372036854775807):wrap64 x=x:=by
 unfold wrap64;omega
theorem zLD {c:List (List Int)} {i:Nat} {v:List Int} {k:Nat} (hk:k<v.length):num (refl c i v) k=wrap64 (num v k-wrap64 (num v i*ent c k i)):=by
 have key:∀(x:Int) (l:List Int) (o k:Nat),k<l.length→num (zAr c i x l o) k=wrap64 (num l k-wrap64 (x*ent c (o+k) i)):=by
  intro x l
  induction l with
  | nil=>intro o k hk; simp at hk
  | cons y ys ih =>
   intro o k hk;cases k with
   | zero=>simp [zAr,num]
   | succ k =>
    have:=ih (o+1) k (by simpa using hk);simp only [num,zAr,List.getElem?_cons_succ] at this ⊢;rw [this,show o+1+k=o+(k+1) by omega]
 have:=key (num v i) v 0 k hk;rw [Nat.zero_add] at this;exact this
theorem zPZ {m:Nat} (h:m≤30):(4:Int) ^ m≤1152921504606846976:=by
 have h1:(4:Nat) ^ m≤4 ^ 30:=Nat.pow_le_pow_right (by omega) h;have h2:((4 ^ m:Nat):Int)≤((4 ^ 30:Nat):Int):=by exact_mod_cast h1
 have h3:((4 ^ m:Nat):Int)=(4:Int) ^ m:=by simp
 rw [h3] at h2;simpa using h2
theorem zCV {c:List (List Int)} (hc:CartanP c) {v:List Int} (hv:v.length=c.length) {w:List Nat} (hw:Cox.Lets c.length w) (hm:w.length≤30) (h:∀k,k<c.length→num v k=Cox.aW (ent c) w Cox.one k) {i:Nat} (hi:i<c.length) {k:Nat} (hk:k<c.length) :
  num (refl c i v) k=Cox.sW (ent c) i (Cox.aW (ent c) w Cox.one) k:=by
 rw [zLD (by omega),h k hk,h i hi];have b1:=zE5 hc.car hw k hk;have b2:=zE5 hc.car hw i hi;have b3:=zPZ hm;unfold Cox.sW;generalize Cox.aW (ent c) w Cox.one i=x at *;generalize Cox.aW (ent c) w Cox.one k=y at *;generalize (4:Int) ^ w.length=B at *;have he:ent c k i=2∨ent c k i=0∨ent c k i = -1∨ent c k i = -2∨ent c k i = -3:=by
  by_cases hik:k=i
  ·subst hik; exact .inl (hc.car.diag k hk)
  ·have ho:=hc.car.off k i hk hi hik; omega
 rcases he with e | e | e | e | e <;> rw [e] <;> rw [zGu (x:=x*_) (by omega) (by omega),zGu (by omega) (by omega)]
theorem Im.step {c:List (List Int)} (hc:CartanP c) {v:List Int} {m:Nat} (h:Im c v m) (hm:m≤30) {i:Nat} (hi:i<c.length):Im c (refl c i v) (m+1):=by
 obtain ⟨hl,w,hw,hwl,hn⟩:=h;refine ⟨by rw [zA2,hl],i::w,fun j hj=>?_,by simp [hwl],fun k hk=>zCV hc hl hw (by omega) hn hi hk⟩;rcases List.mem_cons.1 hj with rfl | hj
 ·exact hi
 ·exact hw j hj
theorem zMf {v:List Int} {x:Int} (h:x∈v):∃k,k<v.length∧num v k=x:=by
 obtain ⟨k,hk,rfl⟩:=List.getElem_of_mem h;exact ⟨k,hk,by simp [num,hk]⟩
theorem Im.ne {c:List (List Int)} (hc:CartanP c) {v:List Int} {m:Nat} (h:Im c v m) {x:Int} (hx:x∈v):x≠0:=by
 obtain ⟨hl,w,hw,hwl,hn⟩:=h;obtain ⟨k,hk,rfl⟩:=zMf hx;rw [hn k (by omega)];exact (Cox.image_step hc.car hw (by omega)).1
theorem Im.back {c:List (List Int)} (hc:CartanP c) {v:List Int} {m:Nat} (h:Im c v m) (hm:m≤30) {i:Nat} {x:Int} (hx:v[i]? = some x) (hx0:x<0):∃m',m=m'+1∧Im c (refl c i v) m':=by
 obtain ⟨hl,w,hw,hwl,hn⟩:=h;have hi:i<c.length:=by have:=(zWI hx).1; omega
 obtain ⟨w',a1,a2,a3⟩:=(Cox.image_step hc.car hw hi).2 (by rw [<-hn i hi,zAS hx]; exact hx0);exact ⟨w'.length,by omega,by rw [zA2,hl],w',a1,rfl,fun k hk=>by rw [zCV hc hl hw (by omega) hn hi hk,a3]⟩
theorem Im.zero {c:List (List Int)} {v:List Int} (h:Im c v 0):zAH v=none:=by
 obtain ⟨hl,w,hw,hwl,hn⟩:=h;have:w=[]:=List.eq_nil_of_length_eq_zero hwl;subst this;refine zDD.2 fun x hx=>?_;obtain ⟨k,hk,rfl⟩:=zMf hx;rw [hn k (by omega)];simp [Cox.aW,Cox.one]
theorem zGh {c:List (List Int)} (hc:CartanP c):∀(m:Nat) {v:List Int} {f:Nat},Im c v m→m≤30→m≤f→nf c f v=nf c m v
 | 0,v,f,h,_,_=>by
  cases f with
  | zero=>rfl
  | succ f=>simp [nf,h.zero]
 | m+1,v,f,h,hm,hf=>by
  obtain ⟨f,rfl⟩:∃k,f=k+1:=⟨f-1,by omega⟩;simp only [nf];cases e:zAH v with
  | none=>rfl
  | some i =>
   obtain ⟨x,h1,h2,_⟩:=zCa e;obtain ⟨m',hm',h3⟩:=h.back hc hm h1 h2;have:m'=m:=by omega
   subst this;simp only;rw [zGh hc m' h3 (by omega) (by omega)]
theorem zSi {c:List (List Int)} (hc:CartanP c):∀(m:Nat) {v:List Int},(nf c m v).length≤m
 | 0,v=>by simp [nf]
 | m+1,v=>by
  simp only [nf];cases e:zAH v with
  | none=>simp
  | some i=>simp; exact zSi hc m
theorem zGi {c:List (List Int)} (hc:CartanP c) {m:Nat} {v:List Int} {i:Nat} (h:Im c v m) (hm:m≤30) (e:zAH v=some i):∃m',m=m'+1∧Im c (refl c i v) m'∧nf c 30 v=(i:Int)::nf c 30 (refl c i v):=by
 obtain ⟨x,h1,h2,_⟩:=zCa e;obtain ⟨m',rfl,h3⟩:=h.back hc hm h1 h2;refine ⟨m',rfl,h3,?_⟩;rw [zGh hc (m'+1) h hm hm,zGh hc m' h3 (by omega) (by omega)];simp [nf,e]
theorem zGA {c:List (List Int)} {v:List Int} (e:zAH v=none):nf c 30 v=[]:=by simp [nf,e]
theorem zBo {c:List (List Int)} (hc:CartanP c):∀{w:List Int},Lets c.length w→w.length≤30→Im c (zAf c w) w.length
 | [],_,_=>⟨by simp [zAf,act],[],fun i hi=>by simp at hi,rfl,fun k hk=>by simp [zAf,act,num,Cox.aW,Cox.one,hk]⟩
 | i::w,hw,hl=>by
  have h1:=zBo hc (w:=w) (fun x hx=>hw x (by simp [hx])) (by simp at hl; omega);have h2:=hw i (by simp);exact h1.step hc (by simp at hl; omega) (by omega)
theorem zKs {c:List (List Int)} (hc:CartanP c) {w:List Int} (hw:Lets c.length w) (hl:w.length≤30):(zCE c w).length≤w.length:=by
 unfold zCE;rw [zGh hc _ (zBo hc hw hl) hl hl];exact zSi hc _
section
variable {w:World} {ops:Array Oper} {rest:List Oper} {o:Oper} {a:Act} {Q:Exit→Act→World→Prop}
theorem FI.of_rowB {w':World} {B:Nat} {v:Value} {l:List Int} {n:Nat} {xs:List Value} (h:w'.ownsRow B 3 1 v n xs) (hn:n=l.length) (hx:xs=l.map (Value.int .i64)):FI (Bt B w'.heap.size) w' v l:=by
 subst hn;subst hx;refine ⟨zC5 h (Nat.zero_le _),fun b hb=>?_⟩;obtain ⟨h1,h2⟩:=h.lt b hb;exact ⟨h1,h2⟩
theorem zL2 {S:Nat→Prop} {B:Nat} (hgd:o.guard=none) (s x:Operand)
  (ho:o.op=.call { callee:=.builtin .append,args:=#[s,x],argTypes:=#[28,28] })
  {v:Value} {l l2:List Int} (hs:a.eval s=v) (hf:FI (Bt B w.heap.size) w v l) (hB:B≤w.heap.size)
  {sa:Option Addr} {m c:Nat} (hx:a.eval x=.slice sa m c) (hr:RI S w (.slice sa m c) l2) (hlen:l.length+l2.length≤67108864)
  (h:∀v' w',FI (Bt B w'.heap.size) w' v' (l++l2)→Below B w w'→w.grownBy w' v.ownBlock→wpList Tryz.prog ops Q rest (a.put o.dst v') w'):wpList Tryz.prog ops Q (o::rest) a w:=by
 obtain ⟨i0,hi,hz0,hz1,hz2⟩:=info_parts zBI;obtain ⟨hown,hS⟩:=hf;obtain ⟨a',cap',hv,hcap,hcase⟩:=hr;simp only [Value.slice.injEq] at hv;obtain ⟨rfl,rfl,rfl⟩:=hv;have hown':w.ownsRow B 3 1 v l.length (l.map (Value.int .i64)):=by
  refine ⟨hown.1,?_⟩;rcases hown.2 with h | ⟨g,cap,cur,hv,_,r⟩
  ·exact .inl h
  ·exact .inr ⟨g,cap,cur,hv,(hS g (by rw [hv]; rfl)).1,r⟩
 have fin:∀v' w',w'.ownsRow B 3 1 v' (l.length+l2.length) (l.map (Value.int .i64)++l2.map (Value.int .i64))→w.grownBy w' v.ownBlock→wpList Tryz.prog ops Q rest (a.put o.dst v') w':=by
  intro v' w' h1 h2;have hb':Below B w w':=(Below.refl B w).grown h2 hB (fun k hk=>(hS k hk).1);exact h v' w' (FI.of_rowB h1 (by simp) (by simp)) hb' h2
 cases sa with
 | none =>
  have h0:l2=[]:=by
   rcases hcase with h | ⟨b,o,ha,_⟩
   ·exact h
   ·cases ha
  subst h0;have hrun:=zCG (w:=w) B 28 o.type 3 i0 1 Tryz.underlying28 hi v l.length c _ hown';have fin':=fin v w (by simpa using hown') (World.grownBy.refl _ _);clear fin h hS hown;refine wpList_plain hgd fun K hK=>?_;unfold Oper.wp;rw [show ([]:List Int).length=0 from rfl] at hx;simp [execOp,ho,resolve,invoke,builtin,hs,hx,hrun,Result.andThen];exact hK _ _ fin'
 | some ad =>
  refine wpList_append_own w hgd s x 28 ho B 3 i0 (.int .i64 0) 1 8 Tryz.underlying28 hi hz0 hz1 hz2 rfl (by decide) v l.length (l.map (Value.int .i64)) hs hown' ad l2.length c (l2.map (Value.int .i64)) hx (by simp) ?_ ?_ ?_ ?_ hB (fun v' w' h1 h2 _=>fin v' w' h1 h2)
  ·intro j u hj;rcases hcase with h | ⟨b,o,ha,_,_,hc⟩
   ·subst h; simp at hj
   ·simp only [Option.some.injEq] at ha;subst ha;rw [List.getElem?_map] at hj;obtain ⟨x,hx1,hx2⟩:=Option.map_eq_some_iff.1 hj;obtain ⟨r,h1,h2⟩:=hc j x hx1;have hadd:(⟨b,o,none⟩:Addr).add j=⟨b,o+j,none⟩:=by unfold Addr.add; split <;> simp_all
    rw [hadd,h1,<-hx2];exact congrArg some h2
  ·intro u hu;obtain ⟨x,_,rfl⟩:=List.mem_map.1 hu;rfl
  ·unfold maxLen; omega
  ·omega
end
end Go.Proofs.YtphbichgpcicnaaGreatDoor
namespace Go.Proofs.YtphbichgpcicnaaGreatDoor
open Go.RowKit
set_option maxRecDepth 20000
set_option maxHeartbeats 8000000
theorem zLn {v:List Int} {k:Nat} {x:Int} (h:v[k]? = some x) (hx:¬x<0):zAH (v.drop k)=(zAH (v.drop (k+1))).map (· + 1):=by
 rw [zAC h]; simp [zAH,hx]
theorem zNe {v:List Int} {k:Nat} {x:Int} (h:v[k]? = some x) (hx:x<0):zAH (v.drop k)=some 0:=by
 rw [zAC h]; simp [zAH,hx]
def lenV:Value→Nat
 | .slice _ n _=>n
 | _=>0
def fd (v:List Int):Int:=match zAH v with
 | none=>-1
 | some i=>i
theorem zHM {S:Nat→Prop} {v:Value} {l:List Int} {w:World} (h:RI S w v l) (hl:l.length≤16777216) :
  Calls Tryz.prog 142 #[v] w fun e w'=>e=.returned (.int .i64 (fd l))∧w'=w:=by
 obtain ⟨a,cap,rfl⟩:=h.form;have HR:Hid ((zAH (l.drop 0)).map (· + 0)=zAH l):=zWF (by simp);have HE:Hid (zAH (l.drop l.length)=none):=zWF (by simp [zAH]);have HF:Hid (∀i,zAH l=some i→fd l=i):=zWF (by intro i h; simp [fd,h]);have HG:Hid (zAH l=none→fd l = -1):=zWF (by intro h; simp [fd,h]);generalize fd l=res at *;generalize hn:l.length=n at *;have HN:=zWF hn;clear hn;go_enter Tryz.func142,Tryz.ntmps142
 go_wp2_with fail
 go_loop [7] (fun j=>∃(k:Nat),k≤n∧j=.int .i64 k∧Hid ((zAH (l.drop k)).map (· + k)=zAH l)) (fun j=>n-(intOf j).toNat)
 case atStart=>exact ⟨0,Nat.zero_le _,rfl,HR⟩
 case round =>
  obtain ⟨k,hk,rfl,HK⟩:=hrel;by_cases hlt:k<n
  ·obtain ⟨b,o,x,rfl,hc,hx⟩:=h.at hlt;by_cases hx0:x<0
   ·have e0:Hid (res=(k:Int)):=zWF (HF.out k (by rw [<-HK.out,zNe hx.out hx0]; simp));go_wp2_with fail
    go_ret
    exact ⟨zAP e0.out.symm,rfl⟩
   ·have HK2:Hid ((zAH (l.drop (k+1))).map (· + (k+1))=zAH l):=zWF (by
     rw [<-HK.out,zLn hx.out hx0,Option.map_map];congr 1;funext j;simp only [Function.comp_apply];omega)
    go_wp2_with fail
    go_round
    case rel=>exact ⟨k+1,by omega,by go_num,HK2⟩
    case measure=>simp [intOf]; omega
  ·have hkn:k=n:=by omega
   have e0:Hid (res = -1):=zWF (HG.out (by rw [<-HK.out,hkn,HE.out]; rfl));go_wp2_with fail
   go_ret
   exact ⟨zAP e0.out.symm,rfl⟩
end Go.Proofs.YtphbichgpcicnaaGreatDoor
