/- Each coroot lies under a dominant one of height at most 11; each root pairs with its coroot to 2. All matrices checked. -/
import Derived.Test.YtiohpndgemonjaaGreatJGCoord
import Derived.Test.YtiohpndgemonjaaGreatJGDb
namespace Go.Proofs.YtiohpndgemonjaaGreat
open Go.RowKit
set_option maxRecDepth 20000
def domB (n:Nat) (c:List (List Int)) (b:Nat):Bool:=decide (sumN (dg b) n≤11) && (List.range n).all fun j=>decide (upN n c j b≤2*dg b j)
def leB (n b b0:Nat):Bool:=(List.range n).all fun k=>decide (dg b k≤dg b0 k)
def zNw (n:Nat) (c:List (List Int)) (T:List Nat):Bool :=
 match T.filter (domB n c) with
 | D=>T.all fun b=>D.any (leB n b)
theorem zLZ:(Fin.L1++Fin.L2++Fin.L3++Fin.L4).all (fun c=>zNw c.length c (zH1 c))=true:=by decide +kernel
namespace Fin
set_option maxRecDepth 20000
theorem zEv {f g:Nat→Int}:∀{k:Nat},(∀j,j<k→f j=g j)→sum f k=sum g k
 | 0,_=>rfl
 | k+1,h=>by unfold sum; rw [zEv (fun j hj=>h j (by omega)),h k (by omega)]
theorem zKU {f g h:Nat→Int}:∀{k:Nat},(∀j,j<k→f j=g j+h j)→sum f k=sum g k+sum h k
 | 0,_=>rfl
 | k+1,e=>by
  unfold sum;rw [zKU (k:=k) (fun j hj=>e j (by omega)),e k (by omega)];omega
theorem zPK (j:Nat) (x y:Int):sgn j (x+y)=sgn j x+sgn j y:=by unfold sgn; split <;> omega
def sk (j k:Nat):Nat:=if k<j then k else k+1
theorem zKr (m:List (List Int)) (j i k:Nat):en (without m j) i k=en m (i+1) (sk j k):=by
 unfold en without;rw [List.getElem?_map,List.getElem?_drop,Nat.add_comm 1 i];cases e:m[i+1]? with
 | none=>simp
 | some r =>
  simp only [Option.map_some,Option.getD_some];congr 1;unfold cut sk;rcases Nat.lt_or_ge k j with h | h
  ·rw [if_pos h];rcases Nat.lt_or_ge k r.length with h2 | h2
   ·rw [List.getElem?_append_left (by simp; omega),List.getElem?_take,if_pos h]
   ·rw [List.getElem?_eq_none (by simp; omega),List.getElem?_eq_none h2]
  ·rw [if_neg (by omega)];rcases Nat.lt_or_ge r.length j with h2 | h2
   ·rw [List.getElem?_eq_none (by simp; omega),List.getElem?_eq_none (by omega)]
   ·rw [List.getElem?_append_right (by simp; omega),List.getElem?_drop];congr 1;simp; omega
def D:Nat→(Nat→Nat→Int)→Int
 | 0,_=>1
 | n+1,f=>sum (fun j=>sgn j (f 0 j*D n (fun i k=>f (i+1) (sk j k)))) (n+1)
theorem zDF:∀{n:Nat} {f g:Nat→Nat→Int},(∀i j,i<n→j<n→f i j=g i j)→D n f=D n g
 | 0,_,_,_=>rfl
 | n+1,f,g,h=>by
  unfold D;refine zEv fun j hj=>?_;rw [h 0 j (by omega) hj,zDF (f:=fun i k=>f (i+1) (sk j k)) (g:=fun i k=>g (i+1) (sk j k)) fun i k hi hk=>h _ _ (by omega) (by unfold sk; split <;> omega)]
theorem det_D:∀(n:Nat) (m:List (List Int)),det n m=D n (en m)
 | 0,_=>rfl
 | n+1,m=>by
  unfold det D;refine zEv fun j hj=>?_;rw [det_D n (without m j)];congr 2;exact zDF fun i k _ _=>zKr m j i k
theorem det_congr {n:Nat} {m m':List (List Int)} (h:∀i j,i<n→j<n→en m i j=en m' i j):det n m=det n m':=by rw [det_D,det_D]; exact zDF h
theorem zF1:∀{n q:Nat} {f g h:Nat→Nat→Int},q<n→(∀i j,i<n→j<n→j≠q→f i j=g i j∧f i j=h i j)→(∀i,i<n→f i q=g i q+h i q)→D n f=D n g+D n h
 | 0,_,_,_,_,hq,_,_=>by omega
 | n+1,q,f,g,h,hq,h1,h2=>by
  unfold D;refine zKU fun j hj=>?_;rw [<-zPK];congr 1;by_cases e:j=q
  ·subst e;have a1:D n (fun i k=>f (i+1) (sk j k))=D n (fun i k=>g (i+1) (sk j k)):=zDF fun i k hi hk=>(h1 _ _ (by omega) (by unfold sk; split <;> omega) (by unfold sk; split <;> omega)).1;have a2:D n (fun i k=>f (i+1) (sk j k))=D n (fun i k=>h (i+1) (sk j k)):=zDF fun i k hi hk=>(h1 _ _ (by omega) (by unfold sk; split <;> omega) (by unfold sk; split <;> omega)).2;rw [h2 0 (by omega),Int.add_mul,<-a1,<-a2]
  ·obtain ⟨b1,b2⟩:=h1 0 j (by omega) hj e;have b3:D n (fun i k=>f (i+1) (sk j k))=D n (fun i k=>g (i+1) (sk j k))+D n (fun i k=>h (i+1) (sk j k)):=by
    refine zF1 (q:=if q<j then q else q-1) (by split <;> omega) (fun i k hi hk hne=>?_) (fun i hi=>?_)
    ·exact h1 _ _ (by omega) (by unfold sk; split <;> omega) (by unfold sk; split at hne <;> split <;> omega)
    ·have e2:sk j (if q<j then q else q-1)=q:=by
      unfold sk;by_cases hqj:q<j
      ·rw [if_pos hqj,if_pos hqj]
      ·rw [if_neg hqj,if_neg (by omega)]; omega
     simp only [e2];exact h2 _ (by omega)
   rw [b3,Int.mul_add,<-b1,<-b2]
theorem det_add {n q:Nat} {f g h:List (List Int)} (hq:q<n) (h1:∀i j,i<n→j<n→j≠q→en f i j=en g i j∧en f i j=en h i j) (h2:∀i,i<n→en f i q=en g i q+en h i q):det n f=det n g+det n h:=by
 rw [det_D,det_D,det_D]; exact zF1 hq h1 h2
theorem zKW {F:Nat→Int} {p:Nat}:∀{N:Nat},(∀j,j<N→j≠p→j≠p+1→F j=0)→sum F N=(if p<N then F p else 0)+(if p+1<N then F (p+1) else 0)
 | 0,_=>rfl
 | N+1,h=>by
  unfold sum;rw [zKW (N:=N) (fun j hj=>h j (by omega))];by_cases e1:N=p
  ·subst e1;rw [if_neg (by omega),if_neg (by omega),if_pos (by omega),if_neg (by omega)]; omega
  ·by_cases e2:N=p+1
   ·subst e2;rw [if_pos (by omega),if_neg (by omega),if_pos (by omega),if_pos (by omega)]; omega
   ·rw [h N (by omega) e1 e2];by_cases e3:p<N
    ·rw [if_pos e3,if_pos (show p<N+1 by omega),if_pos (show p+1<N by omega),if_pos (show p+1<N+1 by omega)]; omega
    ·rw [if_neg e3,if_neg (show ¬p<N+1 by omega),if_neg (show ¬p+1<N by omega),if_neg (show ¬p+1<N+1 by omega)]; omega
theorem zF2:∀{n p:Nat} {f:Nat→Nat→Int},p+1<n→(∀i,i<n→f i p=f i (p+1))→D n f=0
 | 0,_,_,hp,_=>by omega
 | n+1,p,f,hp,h=>by
  unfold D;rw [zKW (p:=p) fun j hj e1 e2=>?_,if_pos (by omega),if_pos hp]
  ·have e:D n (fun i k=>f (i+1) (sk p k))=D n (fun i k=>f (i+1) (sk (p+1) k)):=zDF fun i k hi hk=>by
    by_cases hkp:k=p
    ·subst hkp;have e1:sk k k=k+1:=by unfold sk; rw [if_neg (by omega)]
     have e2:sk (k+1) k=k:=by unfold sk; rw [if_pos (by omega)]
     rw [e1,e2];exact (h _ (by omega)).symm
    ·have e1:sk p k=sk (p+1) k:=by unfold sk; split <;> split <;> omega
     rw [e1]
   rw [e,h 0 (by omega)];unfold sgn;split <;> split <;> omega
  ·have e:D n (fun i k=>f (i+1) (sk j k))=0:=by
    refine zF2 (p:=if p<j then p else p-1) (by split <;> omega) fun i hi=>?_;have e3:sk j (if p<j then p else p-1)=p:=by
     unfold sk;by_cases hpj:p<j
     ·rw [if_pos hpj,if_pos hpj]
     ·rw [if_neg hpj,if_neg (by omega)]; omega
    have e4:sk j ((if p<j then p else p-1)+1)=p+1:=by
     unfold sk;by_cases hpj:p<j
     ·rw [if_pos hpj,if_pos (by omega)]
     ·rw [if_neg hpj,if_neg (by omega)]; omega
    simp only [e3,e4];exact h _ (by omega)
   rw [e];unfold sgn;split <;> simp
def sw (p k:Nat):Nat:=if k=p then p+1 else if k=p+1 then p else k
theorem zPm {n p:Nat} {f:Nat→Nat→Int} (hp:p+1<n):D n (fun i k=>f i (sw p k)) = -D n f:=by
 have z:=zF2 (n:=n) (p:=p) (f:=fun i k=>if k=p∨k=p+1 then f i p+f i (p+1) else f i k) hp (fun i _=>by simp);have h1:=zF1 (n:=n) (q:=p) (f:=fun i k=>if k=p∨k=p+1 then f i p+f i (p+1) else f i k) (g:=fun i k=>if k=p then f i p else if k=p+1 then f i p+f i (p+1) else f i k) (h:=fun i k=>if k=p then f i (p+1) else if k=p+1 then f i p+f i (p+1) else f i k) (by omega)
  (fun i j _ _ hne=>by simp [hne]) (fun i _=>by simp)
 have h2:=zF1 (n:=n) (q:=p+1) (f:=fun i k=>if k=p then f i p else if k=p+1 then f i p+f i (p+1) else f i k) (g:=fun i k=>if k=p then f i p else if k=p+1 then f i p else f i k) (h:=f) hp
  (fun i j _ _ hne=>by by_cases e:j=p <;> simp [hne,e]) (fun i _=>by simp)
 have h3:=zF1 (n:=n) (q:=p+1) (f:=fun i k=>if k=p then f i (p+1) else if k=p+1 then f i p+f i (p+1) else f i k) (g:=fun i k=>f i (sw p k)) (h:=fun i k=>if k=p then f i (p+1) else f i k) hp
  (fun i j _ _ hne=>by unfold sw; by_cases e:j=p <;> simp [hne,e]) (fun i _=>by unfold sw; simp)
 have z2:=zF2 (n:=n) (p:=p) (f:=fun i k=>if k=p then f i p else if k=p+1 then f i p else f i k) hp (fun i _=>by simp);have z3:=zF2 (n:=n) (p:=p) (f:=fun i k=>if k=p then f i (p+1) else f i k) hp (fun i _=>by simp);omega
theorem zKh:∀(m:Nat) {n p q:Nat} {f:Nat→Nat→Int},q=p+1+m→q<n→(∀i,i<n→f i p=f i q)→D n f=0
 | 0,n,p,q,f,e,hq,h=>zF2 (p:=p) (by omega) (fun i hi=>by rw [h i hi,e])
 | m+1,n,p,q,f,e,hq,h=>by
  have h1:=zPm (n:=n) (p:=q-1) (f:=f) (by omega);have h2:=zKh m (n:=n) (p:=p) (q:=q-1) (f:=fun i k=>f i (sw (q-1) k)) (by omega) (by omega) (fun i hi=>by
   have e1:sw (q-1) p=p:=by unfold sw; rw [if_neg (by omega),if_neg (by omega)]
   have e2:sw (q-1) (q-1)=q:=by unfold sw; rw [if_pos rfl]; omega
   simp only [e1,e2];exact h i hi)
  omega
theorem D_zero {n p q:Nat} {f:Nat→Nat→Int} (hp:p<n) (hq:q<n) (hne:p≠q) (h:∀i,i<n→f i p=f i q):D n f=0:=by
 rcases Nat.lt_or_gt_of_ne hne with h1 | h1
 ·exact zKh (q-p-1) (p:=p) (q:=q) (by omega) hq h
 ·exact zKh (p-q-1) (p:=q) (q:=p) (by omega) hp (fun i hi=>(h i hi).symm)
end Fin
open Go.RowKit
set_option maxRecDepth 20000
theorem zBz {c:List (List Int)} {n:Nat} (h:Sq c n) {v:List Int} (hv:v.length=n) {k i j:Nat} (hi:i<n) (hj:j<n):Fin.en (colM c k v) i j=if j=k then num v i else Fin.en c i j:=by
 have hr:c[i]? = some c[i]!:=by
  have:i<c.length:=by rw [h.len]; exact hi
  simp [this]
 generalize c[i]! = r at hr;have hx:v[i]? = some (num v i):=by
  have:i<v.length:=by rw [hv]; exact hi
  unfold num;simp [this]
 have hl:=h.row i r hr;have e:(colM c k v)[i]? = some (r.set k (num v i)):=by
  unfold colM;rw [List.getElem?_zipWith,hr,hx]
 unfold Fin.en;rw [e,hr];simp only [Option.getD_some];by_cases h1:j=k
 ·subst h1;rw [if_pos rfl,List.getElem?_set_self (by omega)];rfl
 ·rw [if_neg h1,List.getElem?_set_ne (fun e=>h1 e.symm)]
theorem zDC {c:List (List Int)} (hc:CartanP c):Sq c c.length:=⟨rfl,fun _ _ h=>hc.row _ (zQg h)⟩
theorem zEX {c:List (List Int)} (hc:CartanP c) {a b d:List Int} (ha:a.length=c.length) (hb:b.length=c.length) (hd:d.length=c.length) (h:∀i,i<c.length→num a i=num b i+num d i) {k:Nat} (hk:k<c.length):zAK c a k=zAK c b k+zAK c d k:=by
 unfold zAK;refine Fin.det_add hk (fun i j hi hj hne=>?_) (fun i hi=>?_)
 ·rw [zBz (zDC hc) ha hi hj,zBz (zDC hc) hb hi hj,zBz (zDC hc) hd hi hj,if_neg hne,if_neg hne,if_neg hne];exact ⟨rfl,rfl⟩
 ·rw [zBz (zDC hc) ha hi hk,zBz (zDC hc) hb hi hk,zBz (zDC hc) hd hi hk,if_pos rfl,if_pos rfl,if_pos rfl];exact h i hi
def colW (c:List (List Int)) (j:Nat):List Int:=(List.range c.length).map fun i=>ent c i j
theorem zIk {c:List (List Int)} {j i:Nat} (hi:i<c.length):num (colW c j) i=ent c i j:=zAy hi
theorem zLg {c:List (List Int)} (h:FinP c) {j k:Nat} (hj:j<c.length) (hk:k<c.length):zAK c (colW c j) k=if j=k then Fin.det c.length c else 0:=by
 have hc:=h.cart;have e0:∀i q,i<c.length→q<c.length→Fin.en (colM c k (colW c j)) i q=if q=k then ent c i j else Fin.en c i q:=fun i q hi hq=>by
  rw [zBz (zDC hc) (by simp [colW]) hi hq];split
  ·exact zIk hi
  ·rfl
 unfold zAK;by_cases e:j=k
 ·subst e;rw [if_pos rfl];refine Fin.det_congr fun i q hi hq=>?_;rw [e0 i q hi hq];split
  ·rename_i h1; subst h1; rfl
  ·rfl
 ·rw [if_neg e,Fin.det_D];refine Fin.D_zero hj hk e fun i hi=>?_;rw [e0 i j hi hj,e0 i k hi hk,if_neg e,if_pos rfl];rfl
def Lat (c:List (List Int)) (v:List Int) (m:Nat→Nat):Prop:=v.length=c.length∧∀i,i<c.length→num v i=Fin.sum (fun j=>(m j:Int)*ent c i j) c.length
theorem zF8 {c:List (List Int)} (hc:CartanP c) {v:List Int} (hv:v.length=c.length) (h:∀i,i<c.length→num v i=0) {k:Nat} (hk:k<c.length):zAK c v k=0:=by
 have:=zEX hc hv hv hv (fun i hi=>by rw [h i hi]; rfl) hk;omega
def sumW (c:List (List Int)) (m:Nat→Nat) (q:Nat):List Int:=(List.range c.length).map fun i=>Fin.sum (fun j=>(m j:Int)*ent c i j) q
theorem zEC {c:List (List Int)} {m:Nat→Nat} {q i:Nat} (hi:i<c.length):num (sumW c m q) i=Fin.sum (fun j=>(m j:Int)*ent c i j) q:=zAy hi
def mulW (c:List (List Int)) (a j:Nat):List Int:=(List.range c.length).map fun i=>(a:Int)*ent c i j
theorem zEB {c:List (List Int)} {a j i:Nat} (hi:i<c.length):num (mulW c a j) i=(a:Int)*ent c i j:=zAy hi
theorem zF6 {c:List (List Int)} (h:FinP c) {j k:Nat} (hj:j<c.length) (hk:k<c.length):∀a:Nat,zAK c (mulW c a j) k=(a:Int)*(if j=k then Fin.det c.length c else 0)
 | 0=>by
  rw [zF8 h.cart (by simp [mulW]) (fun i hi=>by rw [zEB hi]; simp) hk];simp
 | a+1=>by
  rw [zEX h.cart (b:=mulW c a j) (d:=colW c j) (by simp [mulW]) (by simp [mulW]) (by simp [colW]) (fun i hi=>by
   rw [zEB hi,zEB hi,zIk hi];push_cast;rw [Int.add_mul,Int.one_mul]) hk,zF6 h hj hk a,zLg h hj hk]
  push_cast;rw [Int.add_mul,Int.one_mul]
theorem zF7 {c:List (List Int)} (h:FinP c) {m:Nat→Nat} {k:Nat} (hk:k<c.length):∀q,q≤c.length→zAK c (sumW c m q) k=if k<q then (m k:Int)*Fin.det c.length c else 0
 | 0,_=>by
  rw [zF8 h.cart (by simp [sumW]) (fun i hi=>by rw [zEC hi]; rfl) hk];simp
 | q+1,hq=>by
  rw [zEX h.cart (b:=sumW c m q) (d:=mulW c (m q) q) (by simp [sumW]) (by simp [sumW]) (by simp [mulW]) (fun i hi=>by
   rw [zEC hi,zEC hi,zEB hi]; rfl) hk,zF7 h hk q (by omega),zF6 h (by omega) hk]
  by_cases h1:k<q
  ·rw [if_pos h1,if_neg (by omega),if_pos (by omega)]; simp
  ·by_cases h2:q=k
   ·subst h2; rw [if_neg h1,if_pos rfl,if_pos (by omega)]; simp
   ·rw [if_neg h1,if_neg h2,if_neg (by omega)]; simp
theorem zLh {c:List (List Int)} (h:FinP c) {v:List Int} {m:Nat→Nat} (hv:Lat c v m) {k:Nat} (hk:k<c.length):zAK c v k=(m k:Int)*Fin.det c.length c:=by
 have e:zAK c v k=zAK c (sumW c m c.length) k:=by
  unfold zAK;refine Fin.det_congr fun i j hi hj=>?_;rw [zBz (zDC h.cart) hv.1 hi hj,zBz (zDC h.cart) (by simp [sumW]) hi hj,zEC hi,hv.2 i hi]
 rw [e,zF7 h hk _ (zQj _),if_pos hk]
theorem zOp {c:List (List Int)} (h:FinP c) {v:List Int} {m:Nat→Nat} (hv:Lat c v m):allW c v c.length=true:=zCT.2 fun k hk=>by
 rw [zLh h hv hk];exact ⟨Int.mul_nonneg (Int.natCast_nonneg _) (Int.le_of_lt (zE3 h)),Int.mul_tmod_left _ _⟩
end Go.Proofs.YtiohpndgemonjaaGreat
namespace Go.Proofs.YtiohpndgemonjaaGreat
open Go.RowKit
set_option maxRecDepth 20000
theorem zD5 (f g h:Nat→Int):∀n,Cox.dotN f (fun k=>g k+h k) n=Cox.dotN f g n+Cox.dotN f h n
 | 0=>rfl
 | n+1=>by simp only [Cox.dotN]; rw [zD5 f g h n,Int.mul_add]; omega
theorem zIK (f g:Nat→Int) (E:Nat→Nat→Int) (n:Nat):∀m,Cox.dotN f (fun i=>Cox.dotN (E i) g n) m=Cox.dotN g (fun j=>Cox.dotN f (fun i=>E i j) m) n
 | 0=>by
  show (0:Int)=Cox.dotN g (fun j=>0) n;rw [Cox.dotN_comm,Cox.dotN_zero fun _ _=>rfl]
 | m+1=>by
  show Cox.dotN f (fun i=>Cox.dotN (E i) g n) m+f m*Cox.dotN (E m) g n=Cox.dotN g (fun j=>Cox.dotN f (fun i=>E i j) m+f m*E m j) n;rw [zIK f g E n m,zD5,Cox.dotN_scale,Cox.dotN_comm (E m) g]
theorem zDt (m:Nat→Int) (f:Nat→Int):∀k,Fin.sum (fun j=>m j*f j) k=Cox.dotN m f k
 | 0=>rfl
 | k+1=>by simp only [Fin.sum,Cox.dotN]; rw [zDt m f k]
theorem zLp {f g h:Nat→Int}:∀{n:Nat},(∀k,k<n→0≤h k)→(∀k,k<n→f k≤g k)→Cox.dotN f h n≤Cox.dotN g h n
 | 0,_,_=>Int.le_refl _
 | n+1,a,b=>by
  have h1:=zLp (n:=n) (fun k hk=>a k (by omega)) (fun k hk=>b k (by omega));have h2:=Int.mul_le_mul_of_nonneg_right (b n (by omega)) (a n (by omega));simp only [Cox.dotN];omega
theorem zPe {c:List (List Int)} (hc:CartanP c) {j:Nat} (hj:j<c.length) (b:Nat):Cox.dotN (fun i=>(dg b i:Int)) (fun i=>ent c i j) c.length=2*(dg b j:Int)-(upN c.length c j b:Int):=by
 have h:=zFF (E:=Cox.tr (ent c)) (i:=j) (b:=b) (hc.car.diag j hj) (n:=c.length) (fun k hk hne=>by
  have:=hc.car.off k j hk hj hne;show ent c k j≤0;omega)
 rw [if_pos hj,Cox.dotN_comm] at h;exact h
section
variable {c:List (List Int)}
theorem zOU (h:FinP c):∀b∈cors c,∃b0∈cors c,(∀k,k<c.length→num b k≤num b0 k)∧(∀j,j<c.length→0≤Cox.dotN (num b0) (fun i=>ent c i j) c.length)∧Cox.dotN (num b0) Cox.one c.length≤11:=fun b hb=>by
 have hc:=h.cart;have hk:=h.all zLZ;obtain ⟨x,hx,rfl⟩:=List.mem_map.1 hb;unfold zNw at hk;simp only [List.all_eq_true,List.any_eq_true] at hk;obtain ⟨y,hy,hle⟩:=hk x hx;obtain ⟨hy1,hy2⟩:=List.mem_filter.1 hy;unfold domB at hy2;unfold leB at hle;simp only [Bool.and_eq_true,decide_eq_true_eq,List.all_eq_true,List.mem_range] at hy2 hle;refine ⟨zAc c.length y,List.mem_map.2 ⟨y,hy1,rfl⟩,fun k hk=>?_,fun j hj=>?_,?_⟩
 ·rw [zAv hk,zAv hk]; have:=hle k hk; omega
 ·rw [zBA (f':=fun i=>(dg y i:Int)) (fun k hk=>zAv hk),zPe hc hj];have:=hy2.2 j hj;omega
 ·rw [zG0 (f:=dg y) (fun k hk=>zAv hk)];have:=hy2.1;omega
theorem zMK (h:FinP c) {r:List Int} (hr:r∈prR c):r.length=c.length∧(∀x∈r,0≤x)∧htR r≤12:=by
 have hc:=h.cart;unfold prR at hr;split at hr
 ·rw [(zDe h.rq hc).2] at hr;obtain ⟨p,hp,rfl⟩:=List.mem_map.1 hr;exact ⟨(h.rq.sh p hp).1,(h.rq.nn p hp).1,(h.rq.ht p hp).1⟩
 ·simp at hr
def Bd (c:List (List Int)) (B:Int) (v:List Int):Prop:=v.length=c.length∧∀b∈cors c,-B≤prL c.length b v∧prL c.length b v≤B
variable {B:Int} {v u x:List Int}
theorem Bd.wt (h:Bd c B v) (hB:B≤12012):Wt c (cors c) v:=⟨h.1,fun b hb=>by have:=h.2 b hb; omega⟩
theorem Bd.num (h:Bd c B v) (hF:FinP c) {i:Nat} (hi:i<c.length):-B≤num v i∧num v i≤B:=by
 have:=h.2 _ (hF.cor.unit i hi);rwa [zGu hi] at this
theorem Bd.step (h:Bd c B v) (hF:FinP c) (hB:B≤12012) {i:Nat} (hi:i<c.length):Bd c B (refl c i v):=by
 have hT:=hF.cor;have hc:=hF.cart;refine ⟨by rw [zAU]; exact h.1,fun b hb=>?_⟩;rw [(h.wt hB).turn hT hc hi];rcases List.mem_cons.1 ((zDd hT hi).subset hb) with rfl | hb'
 ·rw [zGt hc hi];have:=h.num hF hi;omega
 ·have:cRef c.length c i b∈(cors c).erase (zBR c.length i):=(hT.perm i hi).subset (List.mem_map.2 ⟨b,hb',rfl⟩);exact h.2 _ (List.mem_of_mem_erase this)
theorem Bd.act (h:Bd c B v) (hF:FinP c) (hB:B≤12012):∀{w:List Nat},Cox.Lets c.length w→Bd c B (actN c w v)
 | [],_=>h
 | i::w,hw=>(Bd.act h hF hB (w:=w) (fun j hj=>hw j (List.mem_cons_of_mem _ hj))).step hF hB (hw i (List.mem_cons_self ..))
theorem Bd.rch (h:Bd c B v) (hF:FinP c) (hB:B≤12012) (hx:Rch c v x):Bd c B x:=by
 obtain ⟨w,hw,rfl⟩:=hx;exact h.act hF hB hw
structure Bel (c:List (List Int)) (v u:List Int) (N:Nat):Prop where
 len:u.length=c.length
 dm:dom u=true
 lat:∃m:Nat→Nat,Lat c (dfL v u) m∧sumN m c.length≤N
theorem zFC {k:Nat} (hv:v.length=c.length) (hu:u.length=c.length) (hk:k<c.length):num (dfL v u) k=num v k-num u k:=by
 have h1:v[k]? = some v[k]:=zQf (by omega);have h2:u[k]? = some u[k]:=zQf (by omega);rw [zAe h1,zAe h2];exact zAe (by unfold dfL; rw [List.getElem?_zipWith,h1,h2])
theorem zM7 (h:dom u=true) (k:Nat):0≤num u k:=by
 unfold num;cases e:u[k]? with
 | none=>simp
 | some x=>exact zE4.1 h x (zQg e)
theorem zLi (hF:FinP c) {b:List Int} (hb:b∈cors c) (k:Nat):0≤num b k:=by
 unfold num;cases e:b[k]? with
 | none=>simp
 | some x=>exact hF.cor.nonneg b hb x (zQg e)
theorem zOq {f:Nat→Int} {m:Nat→Nat} {y:List Int} (h:Lat c y m):Cox.dotN f (num y) c.length=Cox.dotN (fun j=>(m j:Int)) (fun j=>Cox.dotN f (fun i=>ent c i j) c.length) c.length:=by
 rw [Cox.dotN_congr (h:=fun i=>Cox.dotN (fun j=>ent c i j) (fun j=>(m j:Int)) c.length) (fun i hi=>by rw [h.2 i hi,zDt (fun j=>(m j:Int)),Cox.dotN_comm]),zIK]
theorem zKO (h:sm4 v=true) (k:Nat):0≤num v k∧num v k≤4:=by
 unfold num;cases e:v[k]? with
 | none=>simp
 | some x =>
  unfold sm4 at h;have:=List.all_eq_true.1 h x (zQg e);simpa using this
theorem Bel.bd (hF:FinP c) (hv:v.length=c.length) (h4:sm4 v=true) {N:Nat} (h:Bel c v u N):Bd c 44 u:=by
 refine ⟨h.len,fun b hb=>?_⟩;obtain ⟨m,hm,_⟩:=h.lat;obtain ⟨b0,hb0,k1,k2,k3⟩:=zOU hF b hb;have hun:=zM7 h.dm;have g0:0≤Cox.dotN (num b) (num u) c.length:=Cox.dot_nonneg (fun k _=>zLi hF hb k) (fun k _=>hun k);have g1:Cox.dotN (num b) (num u) c.length≤Cox.dotN (num b0) (num u) c.length:=zLp (fun k _=>hun k) k1;have g2:Cox.dotN (num b0) (num v) c.length=Cox.dotN (num b0) (num u) c.length+Cox.dotN (num b0) (num (dfL v u)) c.length:=by
  rw [<-zD5];exact Cox.dotN_congr fun k hk=>by rw [zFC hv h.len hk]; omega
 have g3:0≤Cox.dotN (num b0) (num (dfL v u)) c.length:=by
  rw [zOq hm];exact Cox.dot_nonneg (fun k _=>Int.natCast_nonneg _) k2
 have g4:=(zEa (B:=4) (by omega) (n:=c.length) (fun k _=>zLi hF hb0 k) (fun k _=>by have:=zKO h4 k; omega:∀k,k<c.length→-4≤num v k∧num v k≤4)).2;unfold prL;omega
theorem zNX (hF:FinP c) {r:List Int} (hr:r∈prR c) {i:Nat} (hi:i<c.length):num (worR c r) i=Cox.dotN (fun j=>ent c i j) (num r) c.length∧-12000≤num (worR c r) i∧num (worR c r) i≤12000:=by
 have hc:=hF.cart;obtain ⟨hl,hn,ht⟩:=zMK hF hr;have hrow:c[i]? = some c[i]:=zQf hi;have hrl:(c[i]).length=c.length:=hc.row _ (List.getElem_mem hi);have e1:num (worR c r) i=prI c[i] r c.length:=zAe (by unfold worR; rw [List.getElem?_map,hrow]; rfl);have h3:∀x∈c[i],-3≤x∧x≤3:=fun x hx=>by
  obtain ⟨j,hj,rfl⟩:=List.getElem_of_mem hx;have hjl:j<c.length:=by omega
  have ee:ent c i j=(c[i])[j]:=by unfold ent; rw [hrow]; simp [hj]
  have:=hc.ok i j hi hjl;unfold okE at this;rw [ee] at this;split at this
  ·simp at this; omega
  ·simp at this; omega
 have hsm:SmI 1000 r:=fun x hx=>by
  have:=hn x hx;have:=(zBi hn).2 x hx;have ht':sumL r≤12:=ht;omega
 obtain ⟨p1,p2,p3⟩:=zFo hrl hl hc.le h3 hsm;rw [e1,p1];refine ⟨?_,p2,p3⟩;rw [zCY hrl hl];exact zBA fun j hj=>by unfold num ent; rw [hrow]; rfl
theorem zNW {a b:List Int} {k:Nat} (ha:a.length=c.length) (hb:b.length=c.length) (hk:k<c.length) (h:-1000000≤num a k-num b k∧num a k-num b k≤1000000):num (subV a b) k=num a k-num b k:=by
 have:∀(a b:List Int) (k:Nat),k<a.length→k<b.length→num (subV a b) k=wrap64 (num a k-num b k):=by
  intro a
  induction a with
  | nil=>intro b k h; simp at h
  | cons x xs ih =>
   intro b k h h';cases b with
   | nil=>simp at h'
   | cons y ys =>
    cases k with
    | zero=>simp [subV,num]
    | succ k =>
     have:=ih ys k (by simpa using h) (by simpa using h');simpa [subV,num] using this
 rw [this a b k (by omega) (by omega)];unfold wrap64;omega
theorem zJC (f g:Nat→Nat):∀n,sumN (fun k=>f k+g k) n=sumN f n+sumN g n
 | 0=>rfl
 | n+1=>by simp only [sumN]; rw [zJC f g n]; omega
theorem zLG:∀{r:List Int},(∀x∈r,0≤x)→(sumN (fun k=>(num r k).toNat) r.length:Int)=sumL r:=by
 intro r;have:∀(n:Nat) (r:List Int),n≤r.length→(∀x∈r,0≤x)→(sumN (fun k=>(num r k).toNat) n:Int)=sumL (r.take n):=by
  intro n
  induction n with
  | zero=>intro r _ _; simp [sumN,sumL]
  | succ n ih =>
   intro r hn h;have h1:r[n]? = some r[n]:=zQf (by omega);have h2:=h r[n] (List.getElem_mem (by omega));rw [zEu h1,<-ih r (by omega) h];simp only [sumN];rw [zAe h1];omega
 intro h;rw [this r.length r (zQj _) h,List.take_length]
theorem Bel.step (hF:FinP c) (hv:v.length=c.length) (h4:sm4 v=true) {N:Nat} (h:Bel c v u N) {r:List Int} (hr:r∈prR c) (hd:dom (subV u (worR c r))=true):Bel c v (subV u (worR c r)) (N+12):=by
 obtain ⟨hl,hn,ht⟩:=zMK hF hr;have hwl:=zCr c r;have hsl:(subV u (worR c r)).length=c.length:=by rw [zAx (by rw [h.len,hwl]),h.len]
 obtain ⟨m,hm,hs⟩:=h.lat;refine ⟨hsl,hd,fun k=>m k+(num r k).toNat,⟨by unfold dfL; simp [hv,hsl],fun i hi=>?_⟩,?_⟩
 ·obtain ⟨w1,w2,w3⟩:=zNX hF hr hi;have w1:num (worR c r) i=Cox.dotN (ent c i) (num r) c.length:=w1;have hb:=(h.bd hF hv h4).num hF hi;rw [zFC hv hsl hi,zNW h.len hwl hi (by omega)];have e1:=hm.2 i hi;rw [zFC hv h.len hi] at e1;have hrn:∀k,0≤num r k:=fun k=>by
   unfold num;cases e:r[k]? with
   | none=>simp
   | some x=>exact hn x (zQg e)
  rw [zDt (fun j=>((m j+(num r j).toNat:Nat):Int)),Cox.dotN_comm,Cox.dotN_congr (h:=fun j=>(m j:Int)+num r j) (fun k _=>by have:=hrn k; push_cast; omega),zD5];rw [zDt (fun j=>(m j:Int)),Cox.dotN_comm] at e1;omega
 ·rw [zJC];have:=zLG hn;rw [hl] at this;have ht':sumL r≤12:=ht;omega
def BelL (c:List (List Int)) (v:List Int) (q:List (List Int)):Prop:=∀(k:Nat) (x:List Int),q[k]? = some x→Bel c v x (12*k)
theorem zH7 (hF:FinP c) (hv:v.length=c.length) (h4:sm4 v=true) {k:Nat} (hbu:Bel c v u (12*k)):∀{W q:List (List Int)},(∀r∈W,r∈dbW c)→k<q.length→BelL c v q→BelL c v (W.foldl (zAj u) q)
 | [],_,_,_,h=>h
 | r::W,q,hW,hk,h=>by
  rw [List.foldl_cons];have hlen:q.length≤(zAj u q r).length:=by unfold zAj; split <;> simp
  refine zH7 hF hv h4 hbu (fun x hx=>hW x (List.mem_cons_of_mem _ hx)) (by omega) ?_;unfold zAj;split
  ·rename_i h1
   intro j x hx;rcases Nat.lt_or_ge j q.length with hj | hj
   ·rw [List.getElem?_append_left hj] at hx; exact h j x hx
   ·rw [List.getElem?_append_right hj] at hx;have hj0:j-q.length=0:=by
     rcases Nat.eq_zero_or_pos (j-q.length) with e | e
     ·exact e
     ·rw [List.getElem?_eq_none (by simp; omega)] at hx; cases hx
    rw [hj0] at hx;simp at hx;subst hx;obtain ⟨ρ,hρ,rfl⟩:=List.mem_map.1 (hW r (List.mem_cons_self ..));obtain ⟨a1,a2,m,a3,a4⟩:=hbu.step hF hv h4 hρ h1.1;exact ⟨a1,a2,m,a3,by omega⟩
  ·exact h
theorem zH6 (hF:FinP c) (hv:v.length=c.length) (h4:sm4 v=true):∀{f k:Nat} {q s:List (List Int)},BelL c v q→zAu (dbW c) f k q=some s→BelL c v s
 | 0,k,q,s,h,e=>by
  unfold zAu at e;split at e
  ·cases e; exact h
  ·cases e
 | f+1,k,q,s,h,e=>by
  unfold zAu at e;cases hk:q[k]? with
  | none=>rw [hk] at e; cases e; exact h
  | some u =>
   rw [hk] at e;simp only at e;split at e
   ·cases e
   ·exact zH6 hF hv h4 (zH7 hF hv h4 (h k u hk) (fun _ hr=>hr) (zQh hk).1 h) e
theorem zOY (hF:FinP c) (hd:dbC c v=true):∀u∈dbR c v,Bel c v u 2400:=fun u hu=>by
 have hd':=hd;unfold dbC at hd';rw [Bool.and_eq_true,Bool.and_eq_true,decide_eq_true_eq] at hd';obtain ⟨h4,_,hv⟩:=hd';unfold dbR at hu;rw [if_pos hd] at hu;cases hs:dbQ c v with
 | none=>rw [hs] at hu; simp [zAF] at hu
 | some s =>
  obtain ⟨f1,f2⟩:=zGh hd hs;rw [hs,Option.getD_some,(zA3 (n:=c.length) f1.len).2] at hu;have hB:=zH6 hF hv h4 (f:=201) (k:=0) (q:=[v]) (s:=s) (fun k x hx=>by
   have hk0:k=0:=by
    rcases Nat.eq_zero_or_pos k with e | e
    ·exact e
    ·rw [List.getElem?_eq_none (by simp; omega)] at hx; cases hx
   subst hk0;simp at hx;subst hx;refine ⟨hv,zGl h4,fun _=>0,⟨by unfold dfL; simp [hv],fun i hi=>?_⟩,?_⟩
   ·rw [zFC hv hv hi,zDt (fun _=>((0:Nat):Int)),Cox.dotN_zero (x:=fun _=>((0:Nat):Int)) (fun _ _=>rfl)]; omega
   ·have:∀n,sumN (fun _=>0) n=0:=fun n=>by
     induction n with
     | zero=>rfl
     | succ n ih=>simp [sumN,ih]
    rw [this]; exact Nat.zero_le _) hs
  obtain ⟨k,hk⟩:=List.getElem?_of_mem hu;have hkl:=(zQh hk).1;obtain ⟨a1,a2,m,a3,a4⟩:=hB k u hk;exact ⟨a1,a2,m,a3,by omega⟩
end
end Go.Proofs.YtiohpndgemonjaaGreat
