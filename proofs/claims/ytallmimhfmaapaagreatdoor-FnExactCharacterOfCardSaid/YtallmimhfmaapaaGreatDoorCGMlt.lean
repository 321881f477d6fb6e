/- Each coroot lies under a dominant one of height at most 11; each root pairs with its coroot to 2. All matrices checked. -/
import Derived.Test.YtallmimhfmaapaaGreatDoorCGCoord
import Derived.Test.YtallmimhfmaapaaGreatDoorCGDb
import Derived.Test.YtallmimhfmaapaaGreatDoorCChar
import Derived.Test.YtallmimhfmaapaaGreatDoorCGIs
namespace Go.Proofs.YtallmimhfmaapaaGreatDoor
open Go.RowKit
set_option maxRecDepth 20000
def domB (n:Nat) (c:List (List Int)) (b:Nat):Bool:=decide (sumN (dg b) n≤11) && (List.range n).all fun j=>decide (upN n c j b≤2*dg b j)
def leB (n b b0:Nat):Bool:=(List.range n).all fun k=>decide (dg b k≤dg b0 k)
def zQY (n:Nat) (c:List (List Int)) (T:List Nat):Bool :=
 match T.filter (domB n c) with
 | D=>T.all fun b=>D.any (leB n b)
def zQZ (n:Nat) (c:List (List Int)) (T:List Nat) (Q:List (Nat × Nat)):Bool :=
 Q.all fun p=>T.contains p.2 && decide (2*sumN (fun j=>dg p.1 j*dg p.2 j) n=2+sumN (fun j=>dg p.1 j*upN n c j p.2) n)
theorem zNh:(Fin.L1++Fin.L2++Fin.L3++Fin.L4).all (fun c=>zQY c.length c (zG6 c))=true:=by decide +kernel
theorem zNi:(Fin.L1++Fin.L2++Fin.L3++Fin.L4).all (fun c=>zQZ c.length c (zG6 c) (zHc c))=true:=by decide +kernel
namespace Fin
set_option maxRecDepth 20000
theorem zFt {f g:Nat→Int}:∀{k:Nat},(∀j,j<k→f j=g j)→sum f k=sum g k
 | 0,_=>rfl
 | k+1,h=>by unfold sum; rw [zFt (fun j hj=>h j (by omega)),h k (by omega)]
theorem zMM {f g h:Nat→Int}:∀{k:Nat},(∀j,j<k→f j=g j+h j)→sum f k=sum g k+sum h k
 | 0,_=>rfl
 | k+1,e=>by
  unfold sum;rw [zMM (k:=k) (fun j hj=>e j (by omega)),e k (by omega)];omega
theorem zRz (j:Nat) (x y:Int):sgn j (x+y)=sgn j x+sgn j y:=by unfold sgn; split <;> omega
def sk (j k:Nat):Nat:=if k<j then k else k+1
theorem zMr (m:List (List Int)) (j i k:Nat):en (without m j) i k=en m (i+1) (sk j k):=by
 unfold en without;rw [List.getElem?_map,List.getElem?_drop,Nat.add_comm 1 i];cases e:m[i+1]? with
 | none=>simp
 | some r =>
  simp only [Option.map_some,Option.getD_some];congr 1;unfold cut sk;rcases Nat.lt_or_ge k j with h | h
  ·rw [if_pos h];rcases Nat.lt_or_ge k r.length with h2 | h2
   ·rw [List.getElem?_append_left (by simp; omega),List.getElem?_take,if_pos h]
   ·rw [List.getElem?_eq_none (by simp; omega),List.getElem?_eq_none h2]
  ·rw [if_neg (by omega)];rcases Nat.lt_or_ge r.length j with h2 | h2
   ·rw [List.getElem?_eq_none (by simp; omega),List.getElem?_eq_none (by omega)]
   ·rw [List.getElem?_append_right (by simp; omega),List.getElem?_drop];congr 1;simp; omega
def D:Nat→(Nat→Nat→Int)→Int
 | 0,_=>1
 | n+1,f=>sum (fun j=>sgn j (f 0 j*D n (fun i k=>f (i+1) (sk j k)))) (n+1)
theorem zDt:∀{n:Nat} {f g:Nat→Nat→Int},(∀i j,i<n→j<n→f i j=g i j)→D n f=D n g
 | 0,_,_,_=>rfl
 | n+1,f,g,h=>by
  unfold D;refine zFt fun j hj=>?_;rw [h 0 j (by omega) hj,zDt (f:=fun i k=>f (i+1) (sk j k)) (g:=fun i k=>g (i+1) (sk j k)) fun i k hi hk=>h _ _ (by omega) (by unfold sk; split <;> omega)]
theorem det_D:∀(n:Nat) (m:List (List Int)),det n m=D n (en m)
 | 0,_=>rfl
 | n+1,m=>by
  unfold det D;refine zFt fun j hj=>?_;rw [det_D n (without m j)];congr 2;exact zDt fun i k _ _=>zMr m j i k
theorem det_congr {n:Nat} {m m':List (List Int)} (h:∀i j,i<n→j<n→en m i j=en m' i j):det n m=det n m':=by rw [det_D,det_D]; exact zDt h
theorem zGy:∀{n q:Nat} {f g h:Nat→Nat→Int},q<n→(∀i j,i<n→j<n→j≠q→f i j=g i j∧f i j=h i j)→(∀i,i<n→f i q=g i q+h i q)→D n f=D n g+D n h
 | 0,_,_,_,_,hq,_,_=>by omega
 | n+1,q,f,g,h,hq,h1,h2=>by
  unfold D;refine zMM fun j hj=>?_;rw [<-zRz];congr 1;by_cases e:j=q
  ·subst e;have a1:D n (fun i k=>f (i+1) (sk j k))=D n (fun i k=>g (i+1) (sk j k)):=zDt fun i k hi hk=>(h1 _ _ (by omega) (by unfold sk; split <;> omega) (by unfold sk; split <;> omega)).1;have a2:D n (fun i k=>f (i+1) (sk j k))=D n (fun i k=>h (i+1) (sk j k)):=zDt fun i k hi hk=>(h1 _ _ (by omega) (by unfold sk; split <;> omega) (by unfold sk; split <;> omega)).2;rw [h2 0 (by omega),Int.add_mul,<-a1,<-a2]
  ·obtain ⟨b1,b2⟩:=h1 0 j (by omega) hj e;have b3:D n (fun i k=>f (i+1) (sk j k))=D n (fun i k=>g (i+1) (sk j k))+D n (fun i k=>h (i+1) (sk j k)):=by
    refine zGy (q:=if q<j then q else q-1) (by split <;> omega) (fun i k hi hk hne=>?_) (fun i hi=>?_)
    ·exact h1 _ _ (by omega) (by unfold sk; split <;> omega) (by unfold sk; split at hne <;> split <;> omega)
    ·have e2:sk j (if q<j then q else q-1)=q:=by
      unfold sk;by_cases hqj:q<j
      ·rw [if_pos hqj,if_pos hqj]
      ·rw [if_neg hqj,if_neg (by omega)]; omega
     simp only [e2];exact h2 _ (by omega)
   rw [b3,Int.mul_add,<-b1,<-b2]
theorem det_add {n q:Nat} {f g h:List (List Int)} (hq:q<n) (h1:∀i j,i<n→j<n→j≠q→en f i j=en g i j∧en f i j=en h i j) (h2:∀i,i<n→en f i q=en g i q+en h i q):det n f=det n g+det n h:=by
 rw [det_D,det_D,det_D]; exact zGy hq h1 h2
theorem zMO {F:Nat→Int} {p:Nat}:∀{N:Nat},(∀j,j<N→j≠p→j≠p+1→F j=0)→sum F N=(if p<N then F p else 0)+(if p+1<N then F (p+1) else 0)
 | 0,_=>rfl
 | N+1,h=>by
  unfold sum;rw [zMO (N:=N) (fun j hj=>h j (by omega))];by_cases e1:N=p
  ·subst e1;rw [if_neg (by omega),if_neg (by omega),if_pos (by omega),if_neg (by omega)]; omega
  ·by_cases e2:N=p+1
   ·subst e2;rw [if_pos (by omega),if_neg (by omega),if_pos (by omega),if_pos (by omega)]; omega
   ·rw [h N (by omega) e1 e2];by_cases e3:p<N
    ·rw [if_pos e3,if_pos (show p<N+1 by omega),if_pos (show p+1<N by omega),if_pos (show p+1<N+1 by omega)]; omega
    ·rw [if_neg e3,if_neg (show ¬p<N+1 by omega),if_neg (show ¬p+1<N by omega),if_neg (show ¬p+1<N+1 by omega)]; omega
theorem zGz:∀{n p:Nat} {f:Nat→Nat→Int},p+1<n→(∀i,i<n→f i p=f i (p+1))→D n f=0
 | 0,_,_,hp,_=>by omega
 | n+1,p,f,hp,h=>by
  unfold D;rw [zMO (p:=p) fun j hj e1 e2=>?_,if_pos (by omega),if_pos hp]
  ·have e:D n (fun i k=>f (i+1) (sk p k))=D n (fun i k=>f (i+1) (sk (p+1) k)):=zDt fun i k hi hk=>by
    by_cases hkp:k=p
    ·subst hkp;have e1:sk k k=k+1:=by unfold sk; rw [if_neg (by omega)]
     have e2:sk (k+1) k=k:=by unfold sk; rw [if_pos (by omega)]
     rw [e1,e2];exact (h _ (by omega)).symm
    ·have e1:sk p k=sk (p+1) k:=by unfold sk; split <;> split <;> omega
     rw [e1]
   rw [e,h 0 (by omega)];unfold sgn;split <;> split <;> omega
  ·have e:D n (fun i k=>f (i+1) (sk j k))=0:=by
    refine zGz (p:=if p<j then p else p-1) (by split <;> omega) fun i hi=>?_;have e3:sk j (if p<j then p else p-1)=p:=by
     unfold sk;by_cases hpj:p<j
     ·rw [if_pos hpj,if_pos hpj]
     ·rw [if_neg hpj,if_neg (by omega)]; omega
    have e4:sk j ((if p<j then p else p-1)+1)=p+1:=by
     unfold sk;by_cases hpj:p<j
     ·rw [if_pos hpj,if_pos (by omega)]
     ·rw [if_neg hpj,if_neg (by omega)]; omega
    simp only [e3,e4];exact h _ (by omega)
   rw [e];unfold sgn;split <;> simp
def sw (p k:Nat):Nat:=if k=p then p+1 else if k=p+1 then p else k
theorem zSk {n p:Nat} {f:Nat→Nat→Int} (hp:p+1<n):D n (fun i k=>f i (sw p k)) = -D n f:=by
 have z:=zGz (n:=n) (p:=p) (f:=fun i k=>if k=p∨k=p+1 then f i p+f i (p+1) else f i k) hp (fun i _=>by simp);have h1:=zGy (n:=n) (q:=p) (f:=fun i k=>if k=p∨k=p+1 then f i p+f i (p+1) else f i k) (g:=fun i k=>if k=p then f i p else if k=p+1 then f i p+f i (p+1) else f i k) (h:=fun i k=>if k=p then f i (p+1) else if k=p+1 then f i p+f i (p+1) else f i k) (by omega)
  (fun i j _ _ hne=>by simp [hne]) (fun i _=>by simp)
 have h2:=zGy (n:=n) (q:=p+1) (f:=fun i k=>if k=p then f i p else if k=p+1 then f i p+f i (p+1) else f i k) (g:=fun i k=>if k=p then f i p else if k=p+1 then f i p else f i k) (h:=f) hp
  (fun i j _ _ hne=>by by_cases e:j=p <;> simp [hne,e]) (fun i _=>by simp)
 have h3:=zGy (n:=n) (q:=p+1) (f:=fun i k=>if k=p then f i (p+1) else if k=p+1 then f i p+f i (p+1) else f i k) (g:=fun i k=>f i (sw p k)) (h:=fun i k=>if k=p then f i (p+1) else f i k) hp
  (fun i j _ _ hne=>by unfold sw; by_cases e:j=p <;> simp [hne,e]) (fun i _=>by unfold sw; simp)
 have z2:=zGz (n:=n) (p:=p) (f:=fun i k=>if k=p then f i p else if k=p+1 then f i p else f i k) hp (fun i _=>by simp);have z3:=zGz (n:=n) (p:=p) (f:=fun i k=>if k=p then f i (p+1) else f i k) hp (fun i _=>by simp);omega
theorem zMb:∀(m:Nat) {n p q:Nat} {f:Nat→Nat→Int},q=p+1+m→q<n→(∀i,i<n→f i p=f i q)→D n f=0
 | 0,n,p,q,f,e,hq,h=>zGz (p:=p) (by omega) (fun i hi=>by rw [h i hi,e])
 | m+1,n,p,q,f,e,hq,h=>by
  have h1:=zSk (n:=n) (p:=q-1) (f:=f) (by omega);have h2:=zMb m (n:=n) (p:=p) (q:=q-1) (f:=fun i k=>f i (sw (q-1) k)) (by omega) (by omega) (fun i hi=>by
   have e1:sw (q-1) p=p:=by unfold sw; rw [if_neg (by omega),if_neg (by omega)]
   have e2:sw (q-1) (q-1)=q:=by unfold sw; rw [if_pos rfl]; omega
   simp only [e1,e2];exact h i hi)
  omega
theorem D_zero {n p q:Nat} {f:Nat→Nat→Int} (hp:p<n) (hq:q<n) (hne:p≠q) (h:∀i,i<n→f i p=f i q):D n f=0:=by
 rcases Nat.lt_or_gt_of_ne hne with h1 | h1
 ·exact zMb (q-p-1) (p:=p) (q:=q) (by omega) hq h
 ·exact zMb (p-q-1) (p:=q) (q:=p) (by omega) hp (fun i hi=>(h i hi).symm)
end Fin
open Go.RowKit
set_option maxRecDepth 20000
theorem zCK {c:List (List Int)} {n:Nat} (h:Sq c n) {v:List Int} (hv:v.length=n) {k i j:Nat} (hi:i<n) (hj:j<n):Fin.en (colM c k v) i j=if j=k then num v i else Fin.en c i j:=by
 have hr:c[i]? = some c[i]!:=by
  have:i<c.length:=by rw [h.len]; exact hi
  simp [this]
 generalize c[i]! = r at hr;have hx:v[i]? = some (num v i):=by
  have:i<v.length:=by rw [hv]; exact hi
  unfold num;simp [this]
 have hl:=h.row i r hr;have e:(colM c k v)[i]? = some (r.set k (num v i)):=by
  unfold colM;rw [List.getElem?_zipWith,hr,hx]
 unfold Fin.en;rw [e,hr];simp only [Option.getD_some];by_cases h1:j=k
 ·subst h1;rw [if_pos rfl,List.getElem?_set_self (by omega)];rfl
 ·rw [if_neg h1,List.getElem?_set_ne (fun e=>h1 e.symm)]
theorem zDq {c:List (List Int)} (hc:CartanP c):Sq c c.length:=⟨rfl,fun _ _ h=>hc.row _ (zTa h)⟩
theorem zFP {c:List (List Int)} (hc:CartanP c) {a b d:List Int} (ha:a.length=c.length) (hb:b.length=c.length) (hd:d.length=c.length) (h:∀i,i<c.length→num a i=num b i+num d i) {k:Nat} (hk:k<c.length):zAU c a k=zAU c b k+zAU c d k:=by
 unfold zAU;refine Fin.det_add hk (fun i j hi hj hne=>?_) (fun i hi=>?_)
 ·rw [zCK (zDq hc) ha hi hj,zCK (zDq hc) hb hi hj,zCK (zDq hc) hd hi hj,if_neg hne,if_neg hne,if_neg hne];exact ⟨rfl,rfl⟩
 ·rw [zCK (zDq hc) ha hi hk,zCK (zDq hc) hb hi hk,zCK (zDq hc) hd hi hk,if_pos rfl,if_pos rfl,if_pos rfl];exact h i hi
def colW (c:List (List Int)) (j:Nat):List Int:=(List.range c.length).map fun i=>ent c i j
theorem zKE {c:List (List Int)} {j i:Nat} (hi:i<c.length):num (colW c j) i=ent c i j:=zA7 hi
theorem zNq {c:List (List Int)} (h:FinP c) {j k:Nat} (hj:j<c.length) (hk:k<c.length):zAU c (colW c j) k=if j=k then Fin.det c.length c else 0:=by
 have hc:=h.cart;have e0:∀i q,i<c.length→q<c.length→Fin.en (colM c k (colW c j)) i q=if q=k then ent c i j else Fin.en c i q:=fun i q hi hq=>by
  rw [zCK (zDq hc) (by simp [colW]) hi hq];split
  ·exact zKE hi
  ·rfl
 unfold zAU;by_cases e:j=k
 ·subst e;rw [if_pos rfl];refine Fin.det_congr fun i q hi hq=>?_;rw [e0 i q hi hq];split
  ·rename_i h1; subst h1; rfl
  ·rfl
 ·rw [if_neg e,Fin.det_D];refine Fin.D_zero hj hk e fun i hi=>?_;rw [e0 i j hi hj,e0 i k hi hk,if_neg e,if_pos rfl];rfl
def Lat (c:List (List Int)) (v:List Int) (m:Nat→Nat):Prop:=v.length=c.length∧∀i,i<c.length→num v i=Fin.sum (fun j=>(m j:Int)*ent c i j) c.length
theorem zEl {c:List (List Int)} (hc:CartanP c) {v:List Int} (hv:v.length=c.length) (h:∀i,i<c.length→num v i=0) {k:Nat} (hk:k<c.length):zAU c v k=0:=by
 have:=zFP hc hv hv hv (fun i hi=>by rw [h i hi]; rfl) hk;omega
def sumW (c:List (List Int)) (m:Nat→Nat) (q:Nat):List Int:=(List.range c.length).map fun i=>Fin.sum (fun j=>(m j:Int)*ent c i j) q
theorem zE0 {c:List (List Int)} {m:Nat→Nat} {q i:Nat} (hi:i<c.length):num (sumW c m q) i=Fin.sum (fun j=>(m j:Int)*ent c i j) q:=zA7 hi
def mulW (c:List (List Int)) (a j:Nat):List Int:=(List.range c.length).map fun i=>(a:Int)*ent c i j
theorem zEz {c:List (List Int)} {a j i:Nat} (hi:i<c.length):num (mulW c a j) i=(a:Int)*ent c i j:=zA7 hi
theorem zG3 {c:List (List Int)} (h:FinP c) {j k:Nat} (hj:j<c.length) (hk:k<c.length):∀a:Nat,zAU c (mulW c a j) k=(a:Int)*(if j=k then Fin.det c.length c else 0)
 | 0=>by
  rw [zEl h.cart (by simp [mulW]) (fun i hi=>by rw [zEz hi]; simp) hk];simp
 | a+1=>by
  rw [zFP h.cart (b:=mulW c a j) (d:=colW c j) (by simp [mulW]) (by simp [mulW]) (by simp [colW]) (fun i hi=>by
   rw [zEz hi,zEz hi,zKE hi];push_cast;rw [Int.add_mul,Int.one_mul]) hk,zG3 h hj hk a,zNq h hj hk]
  push_cast;rw [Int.add_mul,Int.one_mul]
theorem zG4 {c:List (List Int)} (h:FinP c) {m:Nat→Nat} {k:Nat} (hk:k<c.length):∀q,q≤c.length→zAU c (sumW c m q) k=if k<q then (m k:Int)*Fin.det c.length c else 0
 | 0,_=>by
  rw [zEl h.cart (by simp [sumW]) (fun i hi=>by rw [zE0 hi]; rfl) hk];simp
 | q+1,hq=>by
  rw [zFP h.cart (b:=sumW c m q) (d:=mulW c (m q) q) (by simp [sumW]) (by simp [sumW]) (by simp [mulW]) (fun i hi=>by
   rw [zE0 hi,zE0 hi,zEz hi]; rfl) hk,zG4 h hk q (by omega),zG3 h (by omega) hk]
  by_cases h1:k<q
  ·rw [if_pos h1,if_neg (by omega),if_pos (by omega)]; simp
  ·by_cases h2:q=k
   ·subst h2; rw [if_neg h1,if_pos rfl,if_pos (by omega)]; simp
   ·rw [if_neg h1,if_neg h2,if_neg (by omega)]; simp
theorem zIQ {c:List (List Int)} (h:FinP c) {v:List Int} {m:Nat→Nat} (hv:Lat c v m) {k:Nat} (hk:k<c.length):zAU c v k=(m k:Int)*Fin.det c.length c:=by
 have e:zAU c v k=zAU c (sumW c m c.length) k:=by
  unfold zAU;refine Fin.det_congr fun i j hi hj=>?_;rw [zCK (zDq h.cart) hv.1 hi hj,zCK (zDq h.cart) (by simp [sumW]) hi hj,zE0 hi,hv.2 i hi]
 rw [e,zG4 h hk _ (zTd _),if_pos hk]
theorem zRV {c:List (List Int)} (h:FinP c) {v:List Int} {m:Nat→Nat} (hv:Lat c v m):allW c v c.length=true:=zDx.2 fun k hk=>by
 rw [zIQ h hv hk];exact ⟨Int.mul_nonneg (Int.natCast_nonneg _) (Int.le_of_lt (zEX h)),Int.mul_tmod_left _ _⟩
theorem zRX {c:List (List Int)} (h:FinP c) {v:List Int} {m:Nat→Nat} (hv:Lat c v m):quos c v (Fin.det c.length c) c.length=(List.range c.length).map fun k=>(m k:Int):=by
 refine List.ext_getElem? fun k=>?_;unfold quos;rcases Nat.lt_or_ge k c.length with hk | hk
 ·rw [List.getElem?_map,zCa c v _ k hk,Option.map_some,zIQ h hv hk,List.getElem?_map,List.getElem?_range hk,Option.map_some,Int.mul_tdiv_cancel _ (by have:=zEX h; omega)]
 ·rw [List.getElem?_eq_none (by simp [zAm]; exact hk),List.getElem?_eq_none (by simp; exact hk)]
end Go.Proofs.YtallmimhfmaapaaGreatDoor
namespace Go.Proofs.YtallmimhfmaapaaGreatDoor
open Go.RowKit
set_option maxRecDepth 20000
theorem zDy (f g h:Nat→Int):∀n,Cox.dotN f (fun k=>g k+h k) n=Cox.dotN f g n+Cox.dotN f h n
 | 0=>rfl
 | n+1=>by simp only [Cox.dotN]; rw [zDy f g h n,Int.mul_add]; omega
theorem zGe (f g:Nat→Int) (E:Nat→Nat→Int) (n:Nat):∀m,Cox.dotN f (fun i=>Cox.dotN (E i) g n) m=Cox.dotN g (fun j=>Cox.dotN f (fun i=>E i j) m) n
 | 0=>by
  show (0:Int)=Cox.dotN g (fun j=>0) n;rw [Cox.dotN_comm,Cox.dotN_zero fun _ _=>rfl]
 | m+1=>by
  show Cox.dotN f (fun i=>Cox.dotN (E i) g n) m+f m*Cox.dotN (E m) g n=Cox.dotN g (fun j=>Cox.dotN f (fun i=>E i j) m+f m*E m j) n;rw [zGe f g E n m,zDy,Cox.dotN_scale,Cox.dotN_comm (E m) g]
theorem zDw (m:Nat→Int) (f:Nat→Int):∀k,Fin.sum (fun j=>m j*f j) k=Cox.dotN m f k
 | 0=>rfl
 | k+1=>by simp only [Fin.sum,Cox.dotN]; rw [zDw m f k]
theorem zNz {f g h:Nat→Int}:∀{n:Nat},(∀k,k<n→0≤h k)→(∀k,k<n→f k≤g k)→Cox.dotN f h n≤Cox.dotN g h n
 | 0,_,_=>Int.le_refl _
 | n+1,a,b=>by
  have h1:=zNz (n:=n) (fun k hk=>a k (by omega)) (fun k hk=>b k (by omega));have h2:=Int.mul_le_mul_of_nonneg_right (b n (by omega)) (a n (by omega));simp only [Cox.dotN];omega
theorem zMU {c:List (List Int)} (hc:CartanP c) {j:Nat} (hj:j<c.length) (b:Nat):Cox.dotN (fun i=>(dg b i:Int)) (fun i=>ent c i j) c.length=2*(dg b j:Int)-(upN c.length c j b:Int):=by
 have h:=zGB (E:=Cox.tr (ent c)) (i:=j) (b:=b) (hc.car.diag j hj) (n:=c.length) (fun k hk hne=>by
  have:=hc.car.off k j hk hj hne;show ent c k j≤0;omega)
 rw [if_pos hj,Cox.dotN_comm] at h;exact h
section
variable {c:List (List Int)}
theorem zRA (h:FinP c):∀b∈cors c,∃b0∈cors c,(∀k,k<c.length→num b k≤num b0 k)∧(∀j,j<c.length→0≤Cox.dotN (num b0) (fun i=>ent c i j) c.length)∧Cox.dotN (num b0) Cox.one c.length≤11:=fun b hb=>by
 have hc:=h.cart;have hk:=h.all zNh;obtain ⟨x,hx,rfl⟩:=List.mem_map.1 hb;unfold zQY at hk;simp only [List.all_eq_true,List.any_eq_true] at hk;obtain ⟨y,hy,hle⟩:=hk x hx;obtain ⟨hy1,hy2⟩:=List.mem_filter.1 hy;unfold domB at hy2;unfold leB at hle;simp only [Bool.and_eq_true,decide_eq_true_eq,List.all_eq_true,List.mem_range] at hy2 hle;refine ⟨zAf c.length y,List.mem_map.2 ⟨y,hy1,rfl⟩,fun k hk=>?_,fun j hj=>?_,?_⟩
 ·rw [zAz hk,zAz hk]; have:=hle k hk; omega
 ·rw [zA0 (f':=fun i=>(dg y i:Int)) (fun k hk=>zAz hk),zMU hc hj];have:=hy2.2 j hj;omega
 ·rw [zGA (f:=dg y) (fun k hk=>zAz hk)];have:=hy2.1;omega
theorem zOf (h:FinP c) {r:List Int} (hr:r∈prR c):∃b∈cors c,Cox.dotN (num r) (fun j=>Cox.dotN (num b) (fun i=>ent c i j) c.length) c.length=2:=by
 have hc:=h.cart;have hk:=h.all zNi;unfold prR at hr;split at hr
 ·rw [(zDY h.rq hc).2] at hr;obtain ⟨p,hp,rfl⟩:=List.mem_map.1 hr;unfold prsL at hp;obtain ⟨q,hq,rfl⟩:=List.mem_map.1 hp;unfold zQZ at hk;simp only [List.all_eq_true,Bool.and_eq_true,decide_eq_true_eq,List.contains_eq_mem] at hk;obtain ⟨k1,k2⟩:=hk q hq;refine ⟨zAf c.length q.2,List.mem_map.2 ⟨q.2,k1,rfl⟩,?_⟩;show Cox.dotN (num (zAf c.length q.1)) _ c.length=2;rw [zA0 (f':=fun j=>(dg q.1 j:Int)) (fun k hk=>zAz hk),Cox.dotN_congr (h:=fun j=>2*(dg q.2 j:Int)+(-1)*(upN c.length c j q.2:Int)) (fun j hj=>by
   rw [zA0 (f':=fun i=>(dg q.2 i:Int)) (fun k hk=>zAz hk),zMU hc hj]; omega),Cox.dotN_add]
  have e1:∀(f g:Nat→Nat) (n:Nat),Cox.dotN (fun j=>(f j:Int)) (fun j=>(g j:Int)) n=(sumN (fun j=>f j*g j) n:Nat):=fun f g n=>by
   induction n with
   | zero=>rfl
   | succ n ih=>simp only [Cox.dotN,sumN]; rw [ih]; push_cast; rfl
  rw [e1,e1];omega
 ·simp at hr
theorem zFk (h:FinP c) {r:List Int} (hr:r∈prR c):r.length=c.length∧(∀x∈r,0≤x)∧htR r≤12:=by
 have hc:=h.cart;unfold prR at hr;split at hr
 ·rw [(zDY h.rq hc).2] at hr;obtain ⟨p,hp,rfl⟩:=List.mem_map.1 hr;exact ⟨(h.rq.sh p hp).1,(h.rq.nn p hp).1,(h.rq.ht p hp).1⟩
 ·simp at hr
def Bd (c:List (List Int)) (B:Int) (v:List Int):Prop:=v.length=c.length∧∀b∈cors c,-B≤prL c.length b v∧prL c.length b v≤B
variable {B:Int} {v u x:List Int}
theorem Bd.wt (h:Bd c B v) (hB:B≤12012):Wt c (cors c) v:=⟨h.1,fun b hb=>by have:=h.2 b hb; omega⟩
theorem Bd.num (h:Bd c B v) (hF:FinP c) {i:Nat} (hi:i<c.length):-B≤num v i∧num v i≤B:=by
 have:=h.2 _ (hF.cor.unit i hi);rwa [zH4 hi] at this
theorem Bd.step (h:Bd c B v) (hF:FinP c) (hB:B≤12012) {i:Nat} (hi:i<c.length):Bd c B (refl c i v):=by
 have hT:=hF.cor;have hc:=hF.cart;refine ⟨by rw [zBh]; exact h.1,fun b hb=>?_⟩;rw [(h.wt hB).turn hT hc hi];rcases List.mem_cons.1 ((zEH hT hi).subset hb) with rfl | hb'
 ·rw [zH3 hc hi];have:=h.num hF hi;omega
 ·have:cRef c.length c i b∈(cors c).erase (zBm c.length i):=(hT.perm i hi).subset (List.mem_map.2 ⟨b,hb',rfl⟩);exact h.2 _ (List.mem_of_mem_erase this)
theorem Bd.act (h:Bd c B v) (hF:FinP c) (hB:B≤12012):∀{w:List Nat},Cox.Lets c.length w→Bd c B (actN c w v)
 | [],_=>h
 | i::w,hw=>(Bd.act h hF hB (w:=w) (fun j hj=>hw j (List.mem_cons_of_mem _ hj))).step hF hB (hw i (List.mem_cons_self ..))
theorem Bd.rch (h:Bd c B v) (hF:FinP c) (hB:B≤12012) (hx:Rch c v x):Bd c B x:=by
 obtain ⟨w,hw,rfl⟩:=hx;exact h.act hF hB hw
theorem Bd.of_dm (hF:FinP c) (hx:Wt c (cors c) x) (h:Bd c B (dmL c x)) (hB:B≤12012):Bd c B x :=
 h.rch hF hB (Rch.symm hF.cor hF.cart hx (zNy hF.cor hF.cart hx).2)
structure Bel (c:List (List Int)) (v u:List Int) (N:Nat):Prop where
 len:u.length=c.length
 dm:dom u=true
 lat:∃m:Nat→Nat,Lat c (dfL v u) m∧sumN m c.length≤N
theorem zC3 {k:Nat} (hv:v.length=c.length) (hu:u.length=c.length) (hk:k<c.length):num (dfL v u) k=num v k-num u k:=by
 have h1:v[k]? = some v[k]:=zTZ (by omega);have h2:u[k]? = some u[k]:=zTZ (by omega);rw [zAQ h1,zAQ h2];exact zAQ (by unfold dfL; rw [List.getElem?_zipWith,h1,h2])
theorem zGd (h:dom u=true) (k:Nat):0≤num u k:=by
 unfold num;cases e:u[k]? with
 | none=>simp
 | some x=>exact zHt.1 h x (zTa e)
theorem zJX (hF:FinP c) {b:List Int} (hb:b∈cors c) (k:Nat):0≤num b k:=by
 unfold num;cases e:b[k]? with
 | none=>simp
 | some x=>exact hF.cor.nonneg b hb x (zTa e)
theorem zRW {f:Nat→Int} {m:Nat→Nat} {y:List Int} (h:Lat c y m):Cox.dotN f (num y) c.length=Cox.dotN (fun j=>(m j:Int)) (fun j=>Cox.dotN f (fun i=>ent c i j) c.length) c.length:=by
 rw [Cox.dotN_congr (h:=fun i=>Cox.dotN (fun j=>ent c i j) (fun j=>(m j:Int)) c.length) (fun i hi=>by rw [h.2 i hi,zDw (fun j=>(m j:Int)),Cox.dotN_comm]),zGe]
theorem zMG (h:sm4 v=true) (k:Nat):0≤num v k∧num v k≤4:=by
 unfold num;cases e:v[k]? with
 | none=>simp
 | some x =>
  unfold sm4 at h;have:=List.all_eq_true.1 h x (zTa e);simpa using this
theorem Bel.bd (hF:FinP c) (hv:v.length=c.length) (h4:sm4 v=true) {N:Nat} (h:Bel c v u N):Bd c 44 u:=by
 refine ⟨h.len,fun b hb=>?_⟩;obtain ⟨m,hm,_⟩:=h.lat;obtain ⟨b0,hb0,k1,k2,k3⟩:=zRA hF b hb;have hun:=zGd h.dm;have g0:0≤Cox.dotN (num b) (num u) c.length:=Cox.dot_nonneg (fun k _=>zJX hF hb k) (fun k _=>hun k);have g1:Cox.dotN (num b) (num u) c.length≤Cox.dotN (num b0) (num u) c.length:=zNz (fun k _=>hun k) k1;have g2:Cox.dotN (num b0) (num v) c.length=Cox.dotN (num b0) (num u) c.length+Cox.dotN (num b0) (num (dfL v u)) c.length:=by
  rw [<-zDy];exact Cox.dotN_congr fun k hk=>by rw [zC3 hv h.len hk]; omega
 have g3:0≤Cox.dotN (num b0) (num (dfL v u)) c.length:=by
  rw [zRW hm];exact Cox.dot_nonneg (fun k _=>Int.natCast_nonneg _) k2
 have g4:=(zEB (B:=4) (by omega) (n:=c.length) (fun k _=>zJX hF hb0 k) (fun k _=>by have:=zMG h4 k; omega:∀k,k<c.length→-4≤num v k∧num v k≤4)).2;unfold prL;omega
theorem zGl (hF:FinP c) {r:List Int} (hr:r∈prR c) {i:Nat} (hi:i<c.length):num (worR c r) i=Cox.dotN (fun j=>ent c i j) (num r) c.length∧-12000≤num (worR c r) i∧num (worR c r) i≤12000:=by
 have hc:=hF.cart;obtain ⟨hl,hn,ht⟩:=zFk hF hr;have hrow:c[i]? = some c[i]:=zTZ hi;have hrl:(c[i]).length=c.length:=hc.row _ (List.getElem_mem hi);have e1:num (worR c r) i=prI c[i] r c.length:=zAQ (by unfold worR; rw [List.getElem?_map,hrow]; rfl);have h3:∀x∈c[i],-3≤x∧x≤3:=fun x hx=>by
  obtain ⟨j,hj,rfl⟩:=List.getElem_of_mem hx;have hjl:j<c.length:=by omega
  have ee:ent c i j=(c[i])[j]:=by unfold ent; rw [hrow]; simp [hj]
  have:=hc.ok i j hi hjl;unfold okE at this;rw [ee] at this;split at this
  ·simp at this; omega
  ·simp at this; omega
 have hsm:SmI 1000 r:=fun x hx=>by
  have:=hn x hx;have:=(zB2 hn).2 x hx;have ht':sumL r≤12:=ht;omega
 obtain ⟨p1,p2,p3⟩:=zGn hrl hl hc.le h3 hsm;rw [e1,p1];refine ⟨?_,p2,p3⟩;rw [zCu hrl hl];exact zA0 fun j hj=>by unfold num ent; rw [hrow]; rfl
theorem zPw {a b:List Int} {k:Nat} (ha:a.length=c.length) (hb:b.length=c.length) (hk:k<c.length) (h:-1000000≤num a k-num b k∧num a k-num b k≤1000000):num (subV a b) k=num a k-num b k:=by
 have:∀(a b:List Int) (k:Nat),k<a.length→k<b.length→num (subV a b) k=wrap64 (num a k-num b k):=by
  intro a
  induction a with
  | nil=>intro b k h; simp at h
  | cons x xs ih =>
   intro b k h h';cases b with
   | nil=>simp at h'
   | cons y ys =>
    cases k with
    | zero=>simp [subV,num]
    | succ k =>
     have:=ih ys k (by simpa using h) (by simpa using h');simpa [subV,num] using this
 rw [this a b k (by omega) (by omega)];unfold wrap64;omega
theorem zKn (f g:Nat→Nat):∀n,sumN (fun k=>f k+g k) n=sumN f n+sumN g n
 | 0=>rfl
 | n+1=>by simp only [sumN]; rw [zKn f g n]; omega
theorem zHj:∀{r:List Int},(∀x∈r,0≤x)→(sumN (fun k=>(num r k).toNat) r.length:Int)=sumL r:=by
 intro r;have:∀(n:Nat) (r:List Int),n≤r.length→(∀x∈r,0≤x)→(sumN (fun k=>(num r k).toNat) n:Int)=sumL (r.take n):=by
  intro n
  induction n with
  | zero=>intro r _ _; simp [sumN,sumL]
  | succ n ih =>
   intro r hn h;have h1:r[n]? = some r[n]:=zTZ (by omega);have h2:=h r[n] (List.getElem_mem (by omega));rw [zFs h1,<-ih r (by omega) h];simp only [sumN];rw [zAQ h1];omega
 intro h;rw [this r.length r (zTd _) h,List.take_length]
theorem Bel.step (hF:FinP c) (hv:v.length=c.length) (h4:sm4 v=true) {N:Nat} (h:Bel c v u N) {r:List Int} (hr:r∈prR c) (hd:dom (subV u (worR c r))=true):Bel c v (subV u (worR c r)) (N+12):=by
 obtain ⟨hl,hn,ht⟩:=zFk hF hr;have hwl:=zAx c r;have hsl:(subV u (worR c r)).length=c.length:=by rw [zBC (by rw [h.len,hwl]),h.len]
 obtain ⟨m,hm,hs⟩:=h.lat;refine ⟨hsl,hd,fun k=>m k+(num r k).toNat,⟨by unfold dfL; simp [hv,hsl],fun i hi=>?_⟩,?_⟩
 ·obtain ⟨w1,w2,w3⟩:=zGl hF hr hi;have w1:num (worR c r) i=Cox.dotN (ent c i) (num r) c.length:=w1;have hb:=(h.bd hF hv h4).num hF hi;rw [zC3 hv hsl hi,zPw h.len hwl hi (by omega)];have e1:=hm.2 i hi;rw [zC3 hv h.len hi] at e1;have hrn:∀k,0≤num r k:=fun k=>by
   unfold num;cases e:r[k]? with
   | none=>simp
   | some x=>exact hn x (zTa e)
  rw [zDw (fun j=>((m j+(num r j).toNat:Nat):Int)),Cox.dotN_comm,Cox.dotN_congr (h:=fun j=>(m j:Int)+num r j) (fun k _=>by have:=hrn k; push_cast; omega),zDy];rw [zDw (fun j=>(m j:Int)),Cox.dotN_comm] at e1;omega
 ·rw [zKn];have:=zHj hn;rw [hl] at this;have ht':sumL r≤12:=ht;omega
def BelL (c:List (List Int)) (v:List Int) (q:List (List Int)):Prop:=∀(k:Nat) (x:List Int),q[k]? = some x→Bel c v x (12*k)
theorem zJQ (hF:FinP c) (hv:v.length=c.length) (h4:sm4 v=true) {k:Nat} (hbu:Bel c v u (12*k)):∀{W q:List (List Int)},(∀r∈W,r∈dbW c)→k<q.length→BelL c v q→BelL c v (W.foldl (zAn u) q)
 | [],_,_,_,h=>h
 | r::W,q,hW,hk,h=>by
  rw [List.foldl_cons];have hlen:q.length≤(zAn u q r).length:=by unfold zAn; split <;> simp
  refine zJQ hF hv h4 hbu (fun x hx=>hW x (List.mem_cons_of_mem _ hx)) (by omega) ?_;unfold zAn;split
  ·rename_i h1
   intro j x hx;rcases Nat.lt_or_ge j q.length with hj | hj
   ·rw [List.getElem?_append_left hj] at hx; exact h j x hx
   ·rw [List.getElem?_append_right hj] at hx;have hj0:j-q.length=0:=by
     rcases Nat.eq_zero_or_pos (j-q.length) with e | e
     ·exact e
     ·rw [List.getElem?_eq_none (by simp; omega)] at hx; cases hx
    rw [hj0] at hx;simp at hx;subst hx;obtain ⟨ρ,hρ,rfl⟩:=List.mem_map.1 (hW r (List.mem_cons_self ..));obtain ⟨a1,a2,m,a3,a4⟩:=hbu.step hF hv h4 hρ h1.1;exact ⟨a1,a2,m,a3,by omega⟩
  ·exact h
theorem zJP (hF:FinP c) (hv:v.length=c.length) (h4:sm4 v=true):∀{f k:Nat} {q s:List (List Int)},BelL c v q→zAy (dbW c) f k q=some s→BelL c v s
 | 0,k,q,s,h,e=>by
  unfold zAy at e;split at e
  ·cases e; exact h
  ·cases e
 | f+1,k,q,s,h,e=>by
  unfold zAy at e;cases hk:q[k]? with
  | none=>rw [hk] at e; cases e; exact h
  | some u =>
   rw [hk] at e;simp only at e;split at e
   ·cases e
   ·exact zJP hF hv h4 (zJQ hF hv h4 (h k u hk) (fun _ hr=>hr) (zTb hk).1 h) e
theorem zFz (hF:FinP c) (hd:dbC c v=true):∀u∈dbR c v,Bel c v u 2400:=fun u hu=>by
 have hd':=hd;unfold dbC at hd';rw [Bool.and_eq_true,Bool.and_eq_true,decide_eq_true_eq] at hd';obtain ⟨h4,_,hv⟩:=hd';unfold dbR at hu;rw [if_pos hd] at hu;cases hs:dbQ c v with
 | none=>rw [hs] at hu; simp [zAI] at hu
 | some s =>
  obtain ⟨f1,f2⟩:=zFy hd hs;rw [hs,Option.getD_some,(zBL (n:=c.length) f1.len).2] at hu;have hB:=zJP hF hv h4 (f:=201) (k:=0) (q:=[v]) (s:=s) (fun k x hx=>by
   have hk0:k=0:=by
    rcases Nat.eq_zero_or_pos k with e | e
    ·exact e
    ·rw [List.getElem?_eq_none (by simp; omega)] at hx; cases hx
   subst hk0;simp at hx;subst hx;refine ⟨hv,zHu h4,fun _=>0,⟨by unfold dfL; simp [hv],fun i hi=>?_⟩,?_⟩
   ·rw [zC3 hv hv hi,zDw (fun _=>((0:Nat):Int)),Cox.dotN_zero (x:=fun _=>((0:Nat):Int)) (fun _ _=>rfl)]; omega
   ·have:∀n,sumN (fun _=>0) n=0:=fun n=>by
     induction n with
     | zero=>rfl
     | succ n ih=>simp [sumN,ih]
    rw [this]; exact Nat.zero_le _) hs
  obtain ⟨k,hk⟩:=List.getElem?_of_mem hu;have hkl:=(zTb hk).1;obtain ⟨a1,a2,m,a3,a4⟩:=hB k u hk;exact ⟨a1,a2,m,a3,by omega⟩
end
end Go.Proofs.YtallmimhfmaapaaGreatDoor
namespace Go.Proofs.YtallmimhfmaapaaGreatDoor
set_option maxRecDepth 20000
def minK (k:Nat→Int):Nat→Nat
 | 0=>0
 | i+1=>if k (i+1)<k (minK k i) then i+1 else minK k i
theorem zEa (k:Nat→Int):∀i,minK k i≤i
 | 0=>zTd _
 | i+1=>by
  unfold minK;have:=zEa k i;split <;> omega
theorem zD6 (k:Nat→Int):∀i j,j≤i→k (minK k i)≤k j
 | 0,j,h=>by
  obtain rfl:j=0:=by omega
  exact Int.le_refl _
 | i+1,j,h=>by
  unfold minK;split
  ·rename_i h1
   rcases Nat.lt_or_ge j (i+1) with h2 | h2
   ·have:=zD6 k i j (by omega); omega
   ·obtain rfl:j=i+1:=by omega
    exact Int.le_refl _
  ·rename_i h1
   rcases Nat.lt_or_ge j (i+1) with h2 | h2
   ·exact zD6 k i j (by omega)
   ·obtain rfl:j=i+1:=by omega
    omega
theorem zHO (k:Nat→Int):∀i j,j<minK k i→k (minK k i)<k j
 | 0,j,h=>by simp [minK] at h
 | i+1,j,h=>by
  unfold minK at h ⊢;split
  ·rename_i h1
   rw [if_pos h1] at h;have:=zD6 k i j (by omega);omega
  ·rename_i h1
   rw [if_neg h1] at h;exact zHO k i j h
section
variable {α:Type}
def zAs (h:α→Int) (L:List α) (j:Nat):Int:=((L.map h)[j]?).getD 0
theorem zD4 {h:α→Int} {L:List α} {j:Nat} {x:α} (hx:L[j]? = some x):zAs h L j=h x:=by unfold zAs; rw [List.getElem?_map,hx]; rfl
def selN (h:α→Int):Nat→List α→List α
 | 0,_=>[]
 |n+1,L=>match L[minK (zAs h L) (L.length-1)]? with
  | none=>[]
  | some x=>x::selN h n (L.eraseIdx (minK (zAs h L) (L.length-1)))
def Ahd (h:α→Int) (a b:α × Nat):Prop:=h a.1<h b.1∨h a.1=h b.1∧a.2<b.2
theorem zHg (h:α→Int):∀(n:Nat) {L T:List (α × Nat)},L.length=n→L.Pairwise (fun a b=>a.2<b.2)→T.Perm L→T.Pairwise (Ahd h)→T.map Prod.fst=selN h n (L.map Prod.fst)
 | 0,L,T,hn,_,hp,_=>by
  obtain rfl:=List.eq_nil_of_length_eq_zero hn;obtain rfl:=hp.eq_nil;rfl
 | n+1,L,[],hn,_,hp,_=>by have:=hp.length_eq; simp at this; omega
 | n+1,L,t::T,hn,hL,hp,hT=>by
  have hm:=zEa (zAs h (L.map Prod.fst)) ((L.map Prod.fst).length-1);have hmin:=zD6 (zAs h (L.map Prod.fst)) ((L.map Prod.fst).length-1);have hfst:=zHO (zAs h (L.map Prod.fst)) ((L.map Prod.fst).length-1);have hlen:(L.map Prod.fst).length-1=n:=by rw [List.length_map,hn]; rfl
  unfold selN;simp only [hlen] at hm hmin hfst ⊢;generalize minK (zAs h (L.map Prod.fst)) n=m at *;have hml:m<L.length:=by omega
  obtain ⟨x,hx⟩:∃x,L[m]? = some x:=⟨_,zTZ hml⟩;have kx:zAs h (L.map Prod.fst) m=h x.1:=zD4 (by rw [List.getElem?_map,hx]; rfl);rw [List.getElem?_map,hx];have htx:t=x:=by
   have hxT:x∈t::T:=hp.mem_iff.2 (zTa hx);rcases List.mem_cons.1 hxT with e | hxT
   ·exact e.symm
   ·exfalso;have h1:=(List.pairwise_cons.1 hT).1 x hxT;obtain ⟨j,hj⟩:=List.getElem?_of_mem (hp.mem_iff.1 (List.mem_cons_self ..:t∈t::T));have hjl:j<L.length:=(zTb hj).1;have kj:zAs h (L.map Prod.fst) j=h t.1:=zD4 (by rw [List.getElem?_map,hj]; rfl);have h2:=hmin j (by omega);rcases h1 with h1 | ⟨h1,h3⟩
    ·omega
    ·rcases Nat.lt_trichotomy j m with h4 | h4 | h4
     ·have:=hfst j h4; omega
     ·subst h4; rw [hx] at hj; cases hj; omega
     ·obtain ⟨l1,e1⟩:=zTb hx;obtain ⟨l2,e2⟩:=zTb hj;have:=List.pairwise_iff_getElem.1 hL m j l1 l2 h4;rw [e1,e2] at this;omega
  subst htx;have hp2:T.Perm (L.eraseIdx m):=by
   have h1:L.Perm (t::L.eraseIdx m):=by
    rw [List.eraseIdx_eq_take_drop_succ];have e:L=L.take m++t::L.drop (m+1):=by rw [<-zAD hx,List.take_append_drop]
    exact (List.Perm.of_eq e).trans List.perm_middle
   exact (hp.trans h1).cons_inv
  have hr:=zHg h n (L:=L.eraseIdx m) (T:=T) (by rw [List.length_eraseIdx]; split <;> omega) (hL.sublist (List.eraseIdx_sublist L m)) hp2 (List.pairwise_cons.1 hT).2;show t.1::T.map Prod.fst=t.1::selN h n ((L.map Prod.fst).eraseIdx m);rw [hr,List.eraseIdx_eq_take_drop_succ,List.eraseIdx_eq_take_drop_succ,List.map_append,List.map_take,List.map_drop]
end
end Go.Proofs.YtallmimhfmaapaaGreatDoor
namespace Go.Proofs.YtallmimhfmaapaaGreatDoor
open Go.RowKit
set_option maxRecDepth 20000
theorem zSg (x:Int):∃q:Int,wrap64 x=x+18446744073709551616*q:=⟨-((x+9223372036854775808) / 18446744073709551616),by unfold wrap64; omega⟩
theorem zLW (x q:Int):wrap64 (x+18446744073709551616*q)=wrap64 x:=by unfold wrap64; omega
theorem zCn (x y:Int):wrap64 (wrap64 x+y)=wrap64 (x+y):=by unfold wrap64; omega
theorem zBQ (x y:Int):wrap64 (x+wrap64 y)=wrap64 (x+y):=by unfold wrap64; omega
theorem zCP (x y:Int):wrap64 (wrap64 x*y)=wrap64 (x*y):=by
 obtain ⟨q,h⟩:=zSg x;rw [h,Int.add_mul,Int.mul_assoc,zLW]
theorem zCo (x y:Int):wrap64 (x*wrap64 y)=wrap64 (x*y):=by rw [Int.mul_comm,zCP,Int.mul_comm]
def xAt (u s:List Int) (k:Nat):List Int:=List.zipWith (fun a b=>a+(k:Int)*b) u s
theorem zCp {u s:List Int} {k n:Nat} (hu:u.length=n) (hs:s.length=n):(xAt u s k).length=n:=by simp [xAt,hu,hs]
theorem zC4 {u s:List Int} {k n i:Nat} (hu:u.length=n) (hs:s.length=n) (hi:i<n):num (xAt u s k) i=num u i+(k:Int)*num s i:=by
 have h1:u[i]? = some u[i]:=zTZ (by omega);have h2:s[i]? = some s[i]:=zTZ (by omega);rw [zAQ h1,zAQ h2];exact zAQ (by unfold xAt; rw [List.getElem?_zipWith,h1,h2])
theorem zQW {u s:List Int} (h:u.length=s.length):xAt u s 0=u:=by
 unfold xAt;refine List.ext_getElem (by simp [h]) fun i h1 h2=>?_;simp
theorem zGk:∀{a b:List Int} {k:Nat},k<a.length→k<b.length→num (addW a b) k=wrap64 (num a k+num b k)
 | [],_,_,h,_=>by simp at h
 | _::_,[],_,_,h=>by simp at h
 | x::xs,y::ys,0,_,_=>by simp [addW,num]
 | x::xs,y::ys,k+1,h,h'=>by
  have:=zGk (a:=xs) (b:=ys) (k:=k) (by simpa using h) (by simpa using h');simpa [addW,num] using this
theorem zGj (q:Int):∀{a b:List Int} {k:Nat},k<a.length→k<b.length→num (addK q a b) k=wrap64 (num a k+wrap64 (q*num b k))
 | [],_,_,h,_=>by simp at h
 | _::_,[],_,_,h=>by simp at h
 | x::xs,y::ys,0,_,_=>by simp [addK,num]
 | x::xs,y::ys,k+1,h,h'=>by
  have:=zGj q (a:=xs) (b:=ys) (k:=k) (by simpa using h) (by simpa using h');simpa [addK,num] using this
def pT (d r x:List Int) (n:Nat):Int:=smI (fun k=>num r k*num d k*num x k) n
def mAt (c:List (List Int)) (K:List Wtd) (u s:List Int) (k:Nat):Int:=zAY (dmL c (xAt u s k)) K
def tStr (c:List (List Int)) (K:List Wtd) (d r u s:List Int):Nat→Nat→Int
 | 0,_=>0
 | f+1,k=>if mAt c K u s (k+1)=0 then 0 else mAt c K u s (k+1)*pT d r (xAt u s (k+1)) c.length+tStr c K d r u s f (k+1)
def frT (c:List (List Int)) (K:List Wtd) (d u:List Int) (roots:List (List Int)):Int:=sumL (roots.map fun r=>tStr c K d r u (worR c r) 60 0)
def dep (c:List (List Int)) (v u:List Int):List Int:=quos c (dfL v u) (Fin.det c.length c) c.length
def frD (c:List (List Int)) (d v u:List Int) (n:Nat):Int:=smI (fun k=>num (dep c v u) k*num d k*(num v k+num u k+2)) n
def mltF (c:List (List Int)) (v:List Int) (K:List Wtd) (u:List Int):Int:=if v=u then 1 else (wrap64 (2*frT c K (smR c) u (prR c))).tdiv (frD c (smR c) v u c.length)
def zS9 (c:List (List Int)) (v:List Int) (K:List Wtd) (u:List Int):List Wtd:=K++[(u,mltF c v K u)]
def htV (c:List (List Int)) (v u:List Int):Int:=htR (dep c v u)
def mltL (c:List (List Int)) (v:List Int):List (List Int):=selN (htV c v) (dbR c v).length (dbR c v)
def mltK (c:List (List Int)) (v:List Int) (k:Nat):List Wtd:=((mltL c v).take k).foldl (zS9 c v) []
theorem zFd {c:List (List Int)} {v u:List Int} {k:Nat} (h:(mltL c v)[k]? = some u):mltK c v (k+1)=mltK c v k++[(u,mltF c v (mltK c v k) u)]:=by
 unfold mltK;rw [zAE h,List.foldl_append];rfl
theorem zC2 (c:List (List Int)) (v:List Int):∀k,(mltK c v k).map Prod.fst=(mltL c v).take k
 | 0=>by simp [mltK]
 | k+1=>by
  cases h:(mltL c v)[k]? with
  | none =>
   have hl:(mltL c v).length≤k:=List.getElem?_eq_none_iff.1 h;have e:mltK c v (k+1)=mltK c v k:=by unfold mltK; rw [List.take_of_length_le (by omega),List.take_of_length_le hl]
   rw [e,zC2 c v k,List.take_of_length_le hl,List.take_of_length_le (by omega)]
  | some u=>rw [zFd h,List.map_append,zC2 c v k,zAE h]; rfl
theorem zJ3 {c:List (List Int)} {v:List Int} {k:Nat} (h:k≤(mltL c v).length):(mltK c v k).length=k:=by
 have:=congrArg List.length (zC2 c v k);rw [List.length_map,List.length_take] at this;omega
theorem zG7:∀{K:List Wtd} {l:List Int},zAY l K≠0→∃e∈K,e.1=l
 | [],_,h=>absurd rfl h
 | e::K,l,h=>by
  unfold zAY at h;by_cases he:eqL e.1 l=true
  ·exact ⟨e,List.mem_cons_self ..,by unfold eqL at he; exact of_decide_eq_true he⟩
  ·rw [if_neg he] at h;obtain ⟨f,hf,e2⟩:=zG7 h;exact ⟨f,List.mem_cons_of_mem _ hf,e2⟩
section
variable {c:List (List Int)} {v u r:List Int} {K:List Wtd}
structure Frd (c:List (List Int)) (v:List Int) (K:List Wtd):Prop where
 fin:FinP c
 db:dbC c v=true
 sub:∀e∈K,e.1∈dbR c v
theorem Frd.v4 (h:Frd c v K):sm4 v=true∧v.length=c.length:=by
 have:=h.db;unfold dbC at this;rw [Bool.and_eq_true,Bool.and_eq_true,decide_eq_true_eq] at this;exact ⟨this.1,this.2.2⟩
theorem Frd.fb (h:Frd c v K):finB c=true:=by
 have:=h.db;unfold dbC at this;rw [Bool.and_eq_true,Bool.and_eq_true] at this;exact this.2.1
theorem Frd.bd (h:Frd c v K) (hu:u∈dbR c v):Bd c 44 u:=(zFz h.fin h.db u hu).bd h.fin h.v4.2 h.v4.1
theorem zPE (hF:FinP c) (hr:r∈prR c) {i:Nat} (hi:i<c.length):-36≤num (worR c r) i∧num (worR c r) i≤36:=by
 obtain ⟨hl,hn,ht⟩:=zFk hF hr;obtain ⟨e,_,_⟩:=zGl hF hr hi;have hc:=hF.cart;have h1:∀j,j<c.length→-3≤ent c i j∧ent c i j≤3:=fun j hj=>by
  have:=hc.ok i j hi hj;unfold okE at this;split at this
  ·simp at this; omega
  ·simp at this; omega
 have h2:=zEB (B:=3) (x:=num r) (m:=fun j=>ent c i j) (by omega) (n:=c.length) (fun k hk=>hn _ (zAu hl hk)) h1;have h3:Cox.dotN (num r) Cox.one c.length=sumL r:=by
  have:=zHj hn;rw [hl] at this;rw [<-this];exact zGA (f:=fun k=>(num r k).toNat) (fun k hk=>by have:=hn _ (zAu hl hk); omega)
 rw [e,Cox.dotN_comm];have ht':sumL r≤12:=ht;omega
theorem zCH (h:Frd c v K) (hu:u∈dbR c v) (hr:r∈prR c) {k:Nat} (hk:k≤23):(xAt u (worR c r) k).length=c.length∧(∀i,i<c.length→-900≤num (xAt u (worR c r) k) i∧num (xAt u (worR c r) k) i≤900)∧∀x∈xAt u (worR c r) k,-900≤x∧x≤900:=by
 have hb:=h.bd hu;have hwl:=zAx c r;have hl:=zCp (k:=k) hb.1 hwl;have hn:∀i,i<c.length→-900≤num (xAt u (worR c r) k) i∧num (xAt u (worR c r) k) i≤900:=fun i hi=>by
  rw [zC4 hb.1 hwl hi];have h1:=hb.num h.fin hi;have h2:=zPE h.fin hr hi;have h3:(k:Int)*num (worR c r) i≤(k:Int)*36:=Int.mul_le_mul_of_nonneg_left h2.2 (Int.natCast_nonneg _);have h4:(k:Int)*(-36)≤(k:Int)*num (worR c r) i:=Int.mul_le_mul_of_nonneg_left h2.1 (Int.natCast_nonneg _);omega
 refine ⟨hl,hn,fun x hx=>?_⟩;obtain ⟨i,hi⟩:=List.getElem?_of_mem hx;have hil:=(zTb hi).1;have:=hn i (by omega);rwa [zAQ hi] at this
theorem zTO (h:Frd c v K) (hu:u∈dbR c v) (hr:r∈prR c) {k:Nat} (hk:k≤23):Wt c (cors c) (xAt u (worR c r) k):=by
 obtain ⟨h1,_,h3⟩:=zCH h hu hr hk;exact zKz h.fin.cor h1 (fun x hx=>by have:=h3 x hx; omega)
theorem zPH (h:Frd c v K) (hu:u∈dbR c v) (hr:r∈prR c) {k:Nat} (hk:k≤23):zAh c (xAt u (worR c r) k)=true:=by
 obtain ⟨h1,_,h3⟩:=zCH h hu hr hk;unfold zAh isW;rw [h.fb,zAL.2 h.fin.cart,h1];simp only [decide_true,Bool.true_and,Bool.and_true];exact zCq.2 fun x hx=>by have:=h3 x hx; unfold wtB; exact zBX (by omega)
theorem zMI (h:Frd c v K) (hu:u∈dbR c v) (hr:r∈prR c) {k:Nat} (hk:k≤23) (hm:mAt c K u (worR c r) k≠0):k≤22:=by
 obtain ⟨e,he,e1⟩:=zG7 hm;have hd:Bd c 44 (dmL c (xAt u (worR c r) k)):=by rw [<-e1]; exact h.bd (h.sub e he)
 have hx:=Bd.of_dm h.fin (zTO h hu hr hk) hd (by omega);obtain ⟨b,hb,hp⟩:=zOf h.fin hr;have h1:=(hx.2 b hb).2;have hbu:=h.bd hu;have hwl:=zAx c r;have h2:prL c.length b (xAt u (worR c r) k)=prL c.length b u+(k:Int)*2:=by
  unfold prL;rw [Cox.dotN_congr (h:=fun i=>num u i+(k:Int)*num (worR c r) i) (fun i hi=>zC4 hbu.1 hwl hi),zDy,Cox.dotN_scale];congr 2;rw [<-hp,Cox.dotN_congr (h:=fun i=>Cox.dotN (fun j=>ent c i j) (num r) c.length) (fun i hi=>(zGl h.fin hr hi).1),zGe]
 have h3:0≤prL c.length b u:=by
  have:=(zFz h.fin h.db u hu).dm;exact Cox.dot_nonneg (fun k _=>zJX h.fin hb k) (fun k _=>zGd this k)
 omega
theorem zEI (f k:Nat) (d s:List Int):tStr c K d r u s (f+1) k=if mAt c K u s (k+1)=0 then 0 else mAt c K u s (k+1)*pT d r (xAt u s (k+1)) c.length+tStr c K d r u s f (k+1):=rfl
theorem zQV (h:Frd c v K) (hu:u∈dbR c v) (hr:r∈prR c) {k:Nat} (hk:k≤22):addW (xAt u (worR c r) k) (worR c r)=xAt u (worR c r) (k+1):=by
 have hb:=h.bd hu;have hwl:=zAx c r;have l0:=zCp (k:=k) hb.1 hwl;refine zCN (n:=c.length) (by rw [zDB,l0,hwl]; omega) (zCp hb.1 hwl) fun i hi=>?_;rw [zGk (by omega) (by omega),zC4 hb.1 hwl hi,zC4 hb.1 hwl hi];have h1:=(zCH h hu hr (k:=k+1) (by omega)).2.1 i hi;rw [zC4 hb.1 hwl hi] at h1;have e:num u i+(k:Int)*num (worR c r) i+num (worR c r) i=num u i+((k+1:Nat):Int)*num (worR c r) i:=by push_cast; rw [Int.add_mul,Int.one_mul]; omega
 rw [e];unfold wrap64; omega
theorem zQU (h:Frd c v K) (hu:u∈dbR c v) (hr:r∈prR c) {k:Nat} (hk:k≤23):addK (k:Int) u (worR c r)=xAt u (worR c r) k:=by
 have hb:=h.bd hu;have hwl:=zAx c r;refine zCN (n:=c.length) (by rw [zDA,hb.1,hwl]; omega) (zCp hb.1 hwl) fun i hi=>?_;rw [zGj _ (by rw [hb.1]; exact hi) (by omega),zC4 hb.1 hwl hi];have h1:=(zCH h hu hr hk).2.1 i hi;rw [zC4 hb.1 hwl hi] at h1;rw [zBQ];unfold wrap64; omega
theorem zKi (hF:FinP c) (hb:finB c=true):(smR c).length=c.length∧∀x∈smR c,0<x∧x≤1000:=by
 unfold smR;rw [if_pos hb];exact hF.sym.2.2
theorem zDL (h:Frd c v K) (hu:u∈dbR c v):allW c (dfL v u) c.length=true∧∃m:Nat→Nat,dep c v u=(List.range c.length).map (fun k=>(m k:Int))∧sumN m c.length≤2400∧htV c v u=(sumN m c.length:Int)∧(sumN m c.length=0→u=v):=by
 have hB:=zFz h.fin h.db u hu;obtain ⟨m,hm,hs⟩:=hB.lat;have e:dep c v u=(List.range c.length).map (fun k=>(m k:Int)):=zRX h.fin hm;refine ⟨zRV h.fin hm,m,e,hs,?_,fun h0=>?_⟩
 ·unfold htV;rw [e];have:∀n,sumL ((List.range n).map fun k=>(m k:Int))=(sumN m n:Int):=fun n=>by
   induction n with
   | zero=>rfl
   | succ n ih=>rw [List.range_succ,List.map_append,List.map_cons,List.map_nil,zDZ,ih]; simp [sumN]
  exact this _
 ·have hz:∀n,sumN m n=0→∀k,k<n→m k=0:=fun n=>by
   induction n with
   | zero=>intro _ k hk; omega
   | succ n ih =>
    intro h1 k hk;simp only [sumN] at h1;rcases Nat.lt_or_ge k n with h2 | h2
    ·exact ih (by omega) k h2
    ·obtain rfl:k=n:=by omega
     omega
  refine zCN (n:=c.length) hB.len h.v4.2 fun i hi=>?_;have e1:=hm.2 i hi;rw [zC3 h.v4.2 hB.len hi,zDw (fun j=>(m j:Int)),Cox.dotN_zero (fun k hk=>by rw [hz _ h0 k hk]; rfl)] at e1;omega
theorem zFo {f:Nat→Int} {B:Int} (hB:0≤B):∀{n:Nat},(∀k,k<n→0≤f k∧f k≤B)→0≤smI f n∧smI f n≤B*n∧∀k,k<n→f k≤smI f n
 | 0,_=>⟨Int.le_refl _,by simp [smI],fun k hk=>by omega⟩
 | n+1,h=>by
  obtain ⟨a1,a2,a3⟩:=zFo hB (n:=n) (fun k hk=>h k (by omega));have:=h n (by omega);simp only [smI];refine ⟨by omega,by push_cast; rw [Int.mul_add,Int.mul_one]; omega,fun k hk=>?_⟩;rcases Nat.lt_or_ge k n with h2 | h2
  ·have:=a3 k h2; omega
  ·obtain rfl:k=n:=by omega
   omega
theorem zD2 (h:Frd c v K) (hu:u∈dbR c v) {k:Nat} (hk:k<c.length):0≤num (dep c v u) k*num (smR c) k*(num v k+num u k+2)∧num (dep c v u) k*num (smR c) k*(num v k+num u k+2)≤2400*1000*50∧(0<num (dep c v u) k→0<num (dep c v u) k*num (smR c) k*(num v k+num u k+2)):=by
 obtain ⟨_,m,e,hs,_,_⟩:=zDL h hu;have h1:num (dep c v u) k=(m k:Int):=by rw [e]; exact zA7 hk
 have h2:m k≤2400:=by
  have:∀n,k<n→m k≤sumN m n:=fun n=>by
   induction n with
   | zero=>intro h; omega
   | succ n ih =>
    intro h3;simp only [sumN];rcases Nat.lt_or_ge k n with h4 | h4
    ·have:=ih h4; omega
    ·obtain rfl:k=n:=by omega
     omega
  have:=this _ hk;omega
 obtain ⟨s1,s2⟩:=zKi h.fin h.fb;have h3:=s2 _ (zAu s1 hk);have h4:=zMG h.v4.1 k;have h5:=(h.bd hu).num h.fin hk;have h6:=zGd (zFz h.fin h.db u hu).dm k;rw [h1];have ht:0<num v k+num u k+2∧num v k+num u k+2≤50:=by omega
 generalize num (smR c) k=d at *;generalize num v k+num u k+2=t at *;have g1:0≤(m k:Int)*d:=Int.mul_nonneg (Int.natCast_nonneg _) (by omega);have g2:(m k:Int)*d≤2400*1000:=Int.mul_le_mul (by omega) h3.2 (by omega) (by omega);refine ⟨Int.mul_nonneg g1 (by omega),Int.mul_le_mul g2 ht.2 (by omega) (by omega),fun h7=>?_⟩;exact Int.mul_pos (Int.mul_pos h7 h3.1) ht.1
theorem zN7 (h:Frd c v K) (hu:u∈dbR c v) {n:Nat} (hn:n≤c.length):0≤frD c (smR c) v u n∧frD c (smR c) v u n≤480000000:=by
 obtain ⟨a1,a2,_⟩:=zFo (f:=fun k=>num (dep c v u) k*num (smR c) k*(num v k+num u k+2)) (B:=2400*1000*50) (by omega) (n:=n) (fun k hk=>⟨(zD2 h hu (by omega)).1,(zD2 h hu (by omega)).2.1⟩);have:=h.fin.cart.le;refine ⟨a1,Int.le_trans a2 ?_⟩;have:(n:Int)≤4:=by omega
 have:(2400*1000*50:Int)*n≤2400*1000*50*4:=Int.mul_le_mul_of_nonneg_left this (by omega);omega
theorem zLp (h:Frd c v K) (hu:u∈dbR c v) (hne:v≠u):0<frD c (smR c) v u c.length:=by
 obtain ⟨_,m,e,hs,_,h0⟩:=zDL h hu;have:∃k,k<c.length∧0<m k:=by
  have:∀n,sumN m n≠0→∃k,k<n∧0<m k:=fun n=>by
   induction n with
   | zero=>intro h; exact absurd rfl h
   | succ n ih =>
    intro h1;simp only [sumN] at h1;by_cases h2:sumN m n=0
    ·exact ⟨n,by omega,by omega⟩
    ·obtain ⟨k,k1,k2⟩:=ih h2;exact ⟨k,by omega,k2⟩
  exact this _ fun h1=>hne (h0 h1).symm
 obtain ⟨k,hk,hp⟩:=this;have h1:=(zD2 h hu hk).2.2 (by rw [e,zA7 hk]; omega);have h2:=(zFo (f:=fun k=>num (dep c v u) k*num (smR c) k*(num v k+num u k+2)) (B:=2400*1000*50) (by omega) (n:=c.length) (fun k hk=>⟨(zD2 h hu hk).1,(zD2 h hu hk).2.1⟩)).2.2 k hk;show 0<smI _ _;exact Int.lt_of_lt_of_le h1 h2
end
end Go.Proofs.YtallmimhfmaapaaGreatDoor
namespace Go.Proofs.YtallmimhfmaapaaGreatDoor
open Go.RowKit
set_option maxRecDepth 20000
def zBn (c:List (List Int)):List (List Int)→List (List Int)→Option (List (List Int))
 | [],acc=>some acc
 | u::ls,acc=>if obOk c u=true∧acc.length+(obR c u).length≤200 then zBn c ls (acc++obR c u) else none
def wsQ (c:List (List Int)) (v:List Int):Option (List (List Int)):=zBn c (dbR c v) []
def wsOk (c:List (List Int)) (v:List Int):Bool:=dbOk c v && (wsQ c v).isSome
def wsR (c:List (List Int)) (v:List Int):List (List Int):=if dbOk c v=true then zAI ((wsQ c v).getD []) else []
def WsC (c:List (List Int)) (v:List Int) (w:World) (e:Ending) (w':World):Prop:=∃r,e=.returned (.tuple #[r,.bool (wsOk c v)])∧FII (New w w') w' r (wsR c v)∧Below w.heap.size w w'
theorem zDs (c ls acc:List (List Int)) (u:List Int):zBn c (u::ls) acc=if obOk c u=true∧acc.length+(obR c u).length≤200 then zBn c ls (acc++obR c u) else none:=rfl
theorem zI2 {c ls acc:List (List Int)} {u:List Int} (h1:obOk c u=true) (h2:acc.length+(obR c u).length≤200):zBn c (u::ls) acc=zBn c ls (acc++obR c u):=by rw [zDs,if_pos ⟨h1,h2⟩]
theorem zI0 {c ls acc:List (List Int)} {u:List Int} (h1:obOk c u=false):zBn c (u::ls) acc=none:=by rw [zDs,if_neg (fun h=>by rw [h1] at h; cases h.1)]
theorem zI1 {c ls acc:List (List Int)} {u:List Int} (h2:200<acc.length+(obR c u).length):zBn c (u::ls) acc=none:=by rw [zDs,if_neg (fun h=>by have:=h.2; omega)]
theorem zDM:∀{v:List Int},dom v=true→zAH v=none
 | [],_=>rfl
 | x::v,h=>by
  unfold dom at h;unfold zAH;by_cases hx:x<0
  ·rw [if_pos hx] at h; cases h
  ·rw [if_neg hx] at h;rw [if_neg hx,zDM h]; rfl
theorem zFg {n:Nat} {l:List (List Int)} (h:Dsc n l):l.Nodup:=h.srt.imp (fun {a b} hab e=>by subst e; rw [zCc] at hab; cases hab)
theorem zHa {n:Nat} {q:List (List Int)} (hn:q.Nodup) (hl:∀x∈q,x.length=n):(zAI q).Perm q:=by
 obtain ⟨h1,h2⟩:=zBL hl;exact (List.perm_ext_iff_of_nodup (zFg h1) hn).2 h2
theorem zFh {c:List (List Int)} {u:List Int} (h:obOk c u=true) (hd:dom u=true):(obR c u).Nodup∧(∀x∈obR c u,x.length=c.length∧Rch c u x)∧CartanP c∧Cor c (cors c)∧Wt c (cors c) u:=by
 unfold obOk at h;rw [Bool.and_eq_true] at h;obtain ⟨h1,h2⟩:=h;obtain ⟨hf,hc,hT,hw⟩:=zBA h1;have e0:=zHA (c:=c) (zDM hd);have q0:QOk c u 0 [u]:=⟨zDV _,by simp,Nat.zero_le _,fun x hx=>by rw [List.mem_singleton] at hx; subst hx; exact Rch.refl c _,List.mem_singleton.2 rfl,fun j x hj=>by omega⟩;have hor:obR c u=zAI ((obQ c u).getD []):=by unfold obR; rw [if_pos h1]
 have hq:obQ c u=qBfs c 201 0 [u]:=by unfold obQ; rw [e0]
 rcases zEd 201 0 [u] q0 (by omega) with ⟨r,er,hn,_,hr,_,_⟩ | ⟨er,_⟩
 ·rw [hor,hq,er,Option.getD_some];have hl:∀x∈r,x.length=c.length:=fun x hx=>(Rch.wt hT hc hw.1 (hr x hx)).len;obtain ⟨a,b⟩:=zBL hl;exact ⟨zFg a,fun x hx=>⟨a.len x hx,hr x ((b x).1 hx)⟩,hc,hT,hw.1⟩
 ·rw [hq,er] at h2; cases h2
theorem zTW {c:List (List Int)} {u:List Int} (h:obOk c u=true) (hd:dom u=true):obR c u≠[]:=by
 unfold obOk at h;rw [Bool.and_eq_true] at h;obtain ⟨h1,h2⟩:=h;obtain ⟨hf,hc,hT,hw⟩:=zBA h1;have e0:=zHA (c:=c) (zDM hd);have q0:QOk c u 0 [u]:=⟨zDV _,by simp,Nat.zero_le _,fun x hx=>by rw [List.mem_singleton] at hx; subst hx; exact Rch.refl c _,List.mem_singleton.2 rfl,fun j x hj=>by omega⟩;have hor:obR c u=zAI ((obQ c u).getD []):=by unfold obR; rw [if_pos h1]
 have hq:obQ c u=qBfs c 201 0 [u]:=by unfold obQ; rw [e0]
 rcases zEd 201 0 [u] q0 (by omega) with ⟨r,er,hn,_,hr,hm,_⟩ | ⟨er,_⟩
 ·rw [hor,hq,er,Option.getD_some];intro e;have:=((zBL (n:=c.length) (fun x hx=>(Rch.wt hT hc hw.1 (hr x hx)).len)).2 u).2 hm;rw [e] at this; cases this
 ·rw [hq,er] at h2; cases h2
theorem zPz {c:List (List Int)} {u u':List Int} (h:obOk c u=true) (hd:dom u=true) (h':obOk c u'=true) (hd':dom u'=true) {x:List Int} (hx:x∈obR c u) (hx':x∈obR c u'):u'=u:=by
 obtain ⟨_,a,hc,hT,hw⟩:=zFh h hd;obtain ⟨_,a',_,_,hw'⟩:=zFh h' hd';exact zLl hT hc hw ((a x hx).2.trans (Rch.symm hT hc hw' (a' x hx').2)) (zDM hd) (zDM hd')
structure WsI (c:List (List Int)) (L:List (List Int)) (k:Nat) (acc:List (List Int)):Prop where
 nd:acc.Nodup
 len:∀x∈acc,x.length=c.length
 src:∀x∈acc,∃j u,j<k∧L[j]? = some u∧obOk c u=true∧x∈obR c u
theorem WsI.start (c L:List (List Int)):WsI c L 0 []:=⟨List.nodup_nil,fun x hx=>by simp at hx,fun x hx=>by simp at hx⟩
theorem WsI.step {c L acc:List (List Int)} {k:Nat} {u:List Int} (h:WsI c L k acc) (hL:L.Nodup) (hd:∀x∈L,dom x=true) (hu:L[k]? = some u) (ho:obOk c u=true):WsI c L (k+1) (acc++obR c u):=by
 obtain ⟨a1,a2,_⟩:=zFh ho (hd u (zTa hu));refine ⟨List.nodup_append.2 ⟨h.nd,a1,fun x hx y hy e=>?_⟩,fun x hx=>?_,fun x hx=>?_⟩
 ·subst e;obtain ⟨j,u',hj,hu',ho',hx'⟩:=h.src x hx;have e:=zPz ho' (hd u' (zTa hu')) ho (hd u (zTa hu)) hx' hy;subst e;have hlt:=(zTb hu').1;have:=(List.getElem?_inj hlt hL).1 (hu'.trans hu.symm);omega
 ·rcases List.mem_append.1 hx with hx | hx
  ·exact h.len x hx
  ·exact (a2 x hx).1
 ·rcases List.mem_append.1 hx with hx | hx
  ·obtain ⟨j,u',hj,r⟩:=h.src x hx;exact ⟨j,u',by omega,r⟩
  ·exact ⟨k,u,by omega,hu,ho,hx⟩
theorem zOd (p q:List (List Int)):zAI (p++q)=q.foldl (fun l v=>putV v l) (zAI p):=by unfold zAI; rw [List.foldl_append]
theorem WsI.puts_len {c L acc:List (List Int)} {k:Nat} (h:WsI c L k acc):(zAI acc).length=acc.length:=(zHa h.nd h.len).length_eq
theorem zDK (c:List (List Int)) (v:List Int):(dbR c v).Nodup:=zFg zCR.2.2
theorem zEW (c:List (List Int)) (v:List Int):∀x∈dbR c v,dom x=true:=fun x hx=>(zCR.2.1 x hx).2
theorem zGw {c L:List (List Int)} (hL:L.Nodup) (hd:∀x∈L,dom x=true):∀(m k:Nat) {acc s:List (List Int)},m=L.length-k→k≤L.length→WsI c L k acc→acc.length≤200→zBn c (L.drop k) acc=some s→WsI c L L.length s∧s.length≤200
 | 0,k,acc,s,hm,hk,h,hl,e=>by
  have:k=L.length:=by omega
  subst this;rw [List.drop_length] at e;simp only [zBn,Option.some.injEq] at e;subst e;exact ⟨h,hl⟩
 | m+1,k,acc,s,hm,hk,h,hl,e=>by
  have hlt:k<L.length:=by omega
  have hu:L[k]? = some L[k]:=zTZ hlt;rw [zAD hu,zDs] at e;by_cases hc:obOk c L[k]=true∧acc.length+(obR c L[k]).length≤200
  ·rw [if_pos hc] at e;exact zGw hL hd m (k+1) (by omega) (by omega) (h.step hL hd hu hc.1) (by simp; omega) e
  ·rw [if_neg hc] at e; cases e
theorem zO9 {A B:Nat}:∀{L:List (List Int)},L.length≤A→(∀x∈L,x.length≤B)→zAC L≤A*(B+1):=by
 intro L hA hB;have h1:(L.map List.length).sum≤L.length*B:=by
  clear hA
  induction L with
  | nil=>simp
  | cons x L ih =>
   have:=ih (fun y hy=>hB y (List.mem_cons_of_mem _ hy));have:=hB x (List.mem_cons_self ..);simp only [List.map_cons,List.sum_cons,List.length_cons,Nat.add_mul,Nat.one_mul];omega
 have h2:L.length*B≤A*B:=Nat.mul_le_mul_right _ hA;unfold zAC;rw [Nat.mul_add,Nat.mul_one];omega
theorem zFx (c:List (List Int)) (l:List Int):zAC (wsR c l)≤1000:=by
 unfold wsR;split
 ·rename_i hok
  cases hs:wsQ c l with
  | none=>decide
  | some s =>
   have hd:dbC c l=true:=by unfold dbOk at hok; rw [Bool.and_eq_true] at hok; exact hok.1
   have hf:finB c=true:=by unfold dbC at hd; rw [Bool.and_eq_true,Bool.and_eq_true] at hd; exact hd.2.1
   have h4:=(zCv hf).cart.le;obtain ⟨h1,h2⟩:=zGw (zDK c l) (zEW c l) _ 0 rfl (Nat.zero_le _) (WsI.start c _) (by simp) (by rw [List.drop_zero]; exact hs);have hp:=h1.puts_len;rw [Option.getD_some];have hm:=(zHa h1.nd h1.len);refine Nat.le_trans (zO9 (A:=200) (B:=4) (by omega) (fun x hx=>?_)) (by omega);rw [h1.len x (hm.mem_iff.1 hx)]; exact h4
 ·decide
end Go.Proofs.YtallmimhfmaapaaGreatDoor
namespace Go.Proofs.YtallmimhfmaapaaGreatDoor
set_option maxRecDepth 20000
theorem zNB {α:Type} {L:List α} {m:Nat} {x:α} (hx:L[m]? = some x):L.Perm (x::L.eraseIdx m):=by
 rw [List.eraseIdx_eq_take_drop_succ];have e:L=L.take m++x::L.drop (m+1):=by rw [<-zAD hx,List.take_append_drop]
 exact (List.Perm.of_eq e).trans List.perm_middle
theorem zIq {α:Type} (h:α→Int):∀(n:Nat) {L:List α},L.length=n→(selN h n L).Perm L
 | 0,L,hn=>by
  obtain rfl:=List.eq_nil_of_length_eq_zero hn;exact List.Perm.refl _
 | n+1,L,hn=>by
  have hm:=zEa (zAs h L) (L.length-1);unfold selN;generalize minK (zAs h L) (L.length-1)=m at *;have hml:m<L.length:=by omega
  obtain ⟨x,hx⟩:∃x,L[m]? = some x:=⟨_,zTZ hml⟩;rw [hx];exact ((zIq h n (by rw [List.length_eraseIdx]; split <;> omega)).cons x).trans (zNB hx).symm
theorem zIp {α:Type} (h:α→Int) {L:List α} {n:Nat} (hn:L.length=n+1):∃x,L[minK (zAs h L) n]? = some x∧selN h (n+1) L=x::selN h n (L.eraseIdx (minK (zAs h L) n)):=by
 have hm:=zEa (zAs h L) n;obtain ⟨x,hx⟩:∃x,L[minK (zAs h L) n]? = some x:=⟨_,zTZ (by omega)⟩;refine ⟨x,hx,?_⟩;have e:L.length-1=n:=by omega
 conv=>lhs; unfold selN
 rw [e,hx]
section
variable {c:List (List Int)} {v u:List Int} {K:List Wtd}
theorem zFe (c:List (List Int)) (v:List Int):(mltL c v).Perm (dbR c v):=zIq _ _ rfl
theorem zGi (c:List (List Int)) (v:List Int):(mltL c v).length=(dbR c v).length:=(zFe c v).length_eq
theorem zJ5:u∈mltL c v↔u∈dbR c v:=(zFe c v).mem_iff
theorem zHQ (c:List (List Int)) (v:List Int):(mltL c v).Nodup:=(zFe c v).nodup_iff.2 (zDK c v)
theorem zJ4 (c:List (List Int)) (v:List Int) (k:Nat):∀e∈mltK c v k,e.1∈dbR c v:=fun e he=>by
 have h1:e.1∈(mltK c v k).map Prod.fst:=List.mem_map.2 ⟨e,he,rfl⟩;rw [zC2] at h1;exact zJ5.1 (List.mem_of_mem_take h1)
theorem zPn {k:Nat} (h:(mltL c v)[k]? = some u):∀e∈mltK c v k,e.1≠u:=fun e he hu=>by
 have h1:e.1∈(mltK c v k).map Prod.fst:=List.mem_map.2 ⟨e,he,rfl⟩;rw [zC2,hu] at h1;obtain ⟨j,hj⟩:=List.getElem?_of_mem h1;rw [List.getElem?_take] at hj;split at hj
 ·rename_i hjk
  obtain ⟨l1,e1⟩:=zTb hj;obtain ⟨l2,e2⟩:=zTb h;have:=List.pairwise_iff_getElem.1 (zHQ c v) j k l1 l2 hjk;rw [e1,e2] at this;exact this rfl
 ·cases hj
theorem zHP (c:List (List Int)) (v:List Int) (h4:c.length≤4) (k:Nat):zAF (mltK c v k)≤1000:=by
 have h0:(mltK c v k).length≤200:=by
  have:=congrArg List.length (zC2 c v k);rw [List.length_map,List.length_take] at this;have h1:=(zCR (c:=c) (v:=v)).1;have h2:=zGi c v;omega
 have h1:∀K:List Wtd,(∀e∈K,e.1.length≤4)→(K.map fun x=>x.1.length).sum≤4*K.length:=fun K=>by
  induction K with
  | nil=>intro _; simp
  | cons e K ih =>
   intro h;have a:=ih fun x hx=>h x (List.mem_cons_of_mem _ hx);have b:=h e (List.mem_cons_self ..);simp only [List.map_cons,List.sum_cons,List.length_cons];omega
 have h2:=h1 (mltK c v k) fun e he=>by
  have:=((zCR (c:=c) (v:=v)).2.1 e.1 (zJ4 c v k e he)).1;omega
 unfold zAF;omega
theorem zLZ {W:List (List Int)}:∀{f k:Nat} {q s:List (List Int)},zAy W f k q=some s→∀x∈q,x∈s
 | 0,k,q,s,e,x,hx=>by
  unfold zAy at e;split at e
  ·cases e; exact hx
  ·cases e
 | f+1,k,q,s,e,x,hx=>by
  unfold zAy at e;cases hk:q[k]? with
  | none=>rw [hk] at e; cases e; exact hx
  | some u =>
   rw [hk] at e;simp only at e;split at e
   ·cases e
   ·refine zLZ e x ?_;have:∀(W q:List (List Int)),x∈q→x∈W.foldl (zAn u) q:=fun W=>by
     induction W with
     | nil=>exact fun q h=>h
     | cons r W ih =>
      intro q h;rw [List.foldl_cons];refine ih _ ?_;unfold zAn;split
      ·exact List.mem_append_left _ h
      ·exact h
    exact this W q hx
theorem zMS (h:dbOk c v=true):v∈dbR c v:=by
 unfold dbOk at h;rw [Bool.and_eq_true] at h;obtain ⟨s,hs⟩:=Option.isSome_iff_exists.1 h.2;unfold dbR;rw [if_pos h.1,hs,Option.getD_some];obtain ⟨h1,_⟩:=zFy h.1 hs;exact ((zBL (n:=c.length) (q:=s) h1.len).2 v).2 (zLZ hs v (List.mem_singleton.2 rfl))
theorem zSY (h:Frd c v K) (hu:v∈dbR c v):htV c v v=0:=by
 obtain ⟨_,m,e,_,e2,_⟩:=zDL h hu;rw [e2];have hl:=h.v4.2;have hz:∀k,k<c.length→zAU c (dfL v v) k=0:=fun k hk=>zEl h.fin.cart (by simp [dfL,hl]) (fun i hi=>by rw [zC3 hl hl hi]; omega) hk;have hq:dep c v v=(List.range c.length).map fun _=>(0:Int):=by
  refine List.ext_getElem? fun k=>?_;unfold dep quos;rw [List.getElem?_map,List.getElem?_map];by_cases hk:k<c.length
  ·rw [zCa c (dfL v v) c.length k hk,List.getElem?_range hk,Option.map_some,Option.map_some,hz k hk,Int.zero_tdiv]
  ·rw [List.getElem?_eq_none (by rw [zAm]; omega),List.getElem?_eq_none (by simp; omega)];rfl
 rw [hq] at e;have hm:∀k,k<c.length→m k=0:=fun k hk=>by
  have:=congrArg (fun l=>l[k]?) e;simp only [List.getElem?_map,List.getElem?_range hk,Option.map_some,Option.some.injEq] at this;omega
 have:∀n,n≤c.length→sumN m n=0:=fun n=>by
  induction n with
  | zero=>intro _; rfl
  | succ n ih=>intro hn; simp only [sumN]; rw [ih (by omega),hm n (by omega)]
 rw [this _ (zTd _)]; rfl
theorem zO8 (h:Frd c v K) (hok:dbOk c v=true):(mltL c v)[0]? = some v:=by
 have hv:=zMS hok;have hN:0<(dbR c v).length:=List.length_pos_of_mem hv;obtain ⟨n,hn⟩:∃n,(dbR c v).length=n+1:=⟨(dbR c v).length-1,by omega⟩;obtain ⟨x,hx,e⟩:=zIp (htV c v) hn;unfold mltL;rw [hn,e];obtain ⟨j,hj⟩:=List.getElem?_of_mem hv;have hjl:=(zTb hj).1;have h1:=zD6 (zAs (htV c v) (dbR c v)) n j (by omega);rw [zD4 hx,zD4 hj,zSY h hv] at h1;obtain ⟨_,m,_,_,e2,e3⟩:=zDL h (zTa hx);rw [e2] at h1;have:x=v:=e3 (by omega);rw [this]; rfl
end
def mlOk (c:List (List Int)) (v:List Int):Bool:=dbOk c v && decide (szC c≤200)
def mlR (c:List (List Int)) (v:List Int):List Wtd:=if mlOk c v=true then mltK c v (dbR c v).length else []
theorem zIf (c:List (List Int)) (v:List Int):zAF (mlR c v)≤1000:=by
 unfold mlR;split
 ·rename_i h
  unfold mlOk dbOk dbC at h;simp only [Bool.and_eq_true] at h;have:c.length≤4:=(zD0 h.1.1.2.1).cart.le;exact zHP c v this _
 ·decide
theorem zHF {c:List (List Int)} {v:List Int} (h:dbOk c v=true) (k:Nat):Frd c v (mltK c v k):=by
 unfold dbOk at h;rw [Bool.and_eq_true] at h;have h1:=h.1;unfold dbC at h1;simp only [Bool.and_eq_true] at h1;exact ⟨zD0 h1.2.1,h.1,zJ4 c v k⟩
theorem zRN {c:List (List Int)} {v:List Int} (h:dbOk c v=true):Frd c v []:=zHF h 0
end Go.Proofs.YtallmimhfmaapaaGreatDoor
