/- Each coroot lies under a dominant one of height at most 11; each root pairs with its coroot to 2. All matrices checked. -/
import Derived.Test.YtphbichgpcicnaaGreatDoorJGCoord
import Derived.Test.YtphbichgpcicnaaGreatDoorJGDb
import Derived.Test.YtphbichgpcicnaaGreatDoorJChar
import Derived.Test.YtphbichgpcicnaaGreatDoorJGIs
namespace Go.Proofs.YtphbichgpcicnaaGreatDoor
open Go.RowKit
set_option maxRecDepth 20000
def domB (n:Nat) (c:List (List Int)) (b:Nat):Bool:=decide (sumN (dg b) n≤11) && (List.range n).all fun j=>decide (upN n c j b≤2*dg b j)
def leB (n b b0:Nat):Bool:=(List.range n).all fun k=>decide (dg b k≤dg b0 k)
def zSV (n:Nat) (c:List (List Int)) (T:List Nat):Bool :=
 match T.filter (domB n c) with
 | D=>T.all fun b=>D.any (leB n b)
def zSW (n:Nat) (c:List (List Int)) (T:List Nat) (Q:List (Nat × Nat)):Bool :=
 Q.all fun p=>T.contains p.2 && decide (2*sumN (fun j=>dg p.1 j*dg p.2 j) n=2+sumN (fun j=>dg p.1 j*upN n c j p.2) n)
theorem zOU:(Fin.L1++Fin.L2++Fin.L3++Fin.L4).all (fun c=>zSV c.length c (zHo c))=true:=by decide +kernel
theorem zOV:(Fin.L1++Fin.L2++Fin.L3++Fin.L4).all (fun c=>zSW c.length c (zHo c) (zBd c))=true:=by decide +kernel
namespace Fin
set_option maxRecDepth 20000
theorem zGQ {f g:Nat→Int}:∀{k:Nat},(∀j,j<k→f j=g j)→sum f k=sum g k
 | 0,_=>rfl
 | k+1,h=>by unfold sum; rw [zGQ (fun j hj=>h j (by omega)),h k (by omega)]
theorem zMy {f g h:Nat→Int}:∀{k:Nat},(∀j,j<k→f j=g j+h j)→sum f k=sum g k+sum h k
 | 0,_=>rfl
 | k+1,e=>by
  unfold sum;rw [zMy (k:=k) (fun j hj=>e j (by omega)),e k (by omega)];omega
theorem zUM (j:Nat) (x y:Int):sgn j (x+y)=sgn j x+sgn j y:=by unfold sgn; split <;> omega
def sk (j k:Nat):Nat:=if k<j then k else k+1
theorem zNZ (m:List (List Int)) (j i k:Nat):en (without m j) i k=en m (i+1) (sk j k):=by
 unfold en without;rw [List.getElem?_map,List.getElem?_drop,Nat.add_comm 1 i];cases e:m[i+1]? with
 | none=>simp
 | some r =>
  simp only [Option.map_some,Option.getD_some];congr 1;unfold cut sk;rcases Nat.lt_or_ge k j with h | h
  ·rw [if_pos h];rcases Nat.lt_or_ge k r.length with h2 | h2
   ·rw [List.getElem?_append_left (by simp; omega),List.getElem?_take,if_pos h]
   ·rw [List.getElem?_eq_none (by simp; omega),List.getElem?_eq_none h2]
  ·rw [if_neg (by omega)];rcases Nat.lt_or_ge r.length j with h2 | h2
   ·rw [List.getElem?_eq_none (by simp; omega),List.getElem?_eq_none (by omega)]
   ·rw [List.getElem?_append_right (by simp; omega),List.getElem?_drop];congr 1;simp; omega
def D:Nat→(Nat→Nat→Int)→Int
 | 0,_=>1
 | n+1,f=>sum (fun j=>sgn j (f 0 j*D n (fun i k=>f (i+1) (sk j k)))) (n+1)
theorem zDv:∀{n:Nat} {f g:Nat→Nat→Int},(∀i j,i<n→j<n→f i j=g i j)→D n f=D n g
 | 0,_,_,_=>rfl
 | n+1,f,g,h=>by
  unfold D;refine zGQ fun j hj=>?_;rw [h 0 j (by omega) hj,zDv (f:=fun i k=>f (i+1) (sk j k)) (g:=fun i k=>g (i+1) (sk j k)) fun i k hi hk=>h _ _ (by omega) (by unfold sk; split <;> omega)]
theorem det_D:∀(n:Nat) (m:List (List Int)),det n m=D n (en m)
 | 0,_=>rfl
 | n+1,m=>by
  unfold det D;refine zGQ fun j hj=>?_;rw [det_D n (without m j)];congr 2;exact zDv fun i k _ _=>zNZ m j i k
theorem det_congr {n:Nat} {m m':List (List Int)} (h:∀i j,i<n→j<n→en m i j=en m' i j):det n m=det n m':=by rw [det_D,det_D]; exact zDv h
theorem zHh:∀{n q:Nat} {f g h:Nat→Nat→Int},q<n→(∀i j,i<n→j<n→j≠q→f i j=g i j∧f i j=h i j)→(∀i,i<n→f i q=g i q+h i q)→D n f=D n g+D n h
 | 0,_,_,_,_,hq,_,_=>by omega
 | n+1,q,f,g,h,hq,h1,h2=>by
  unfold D;refine zMy fun j hj=>?_;rw [<-zUM];congr 1;by_cases e:j=q
  ·subst e;have a1:D n (fun i k=>f (i+1) (sk j k))=D n (fun i k=>g (i+1) (sk j k)):=zDv fun i k hi hk=>(h1 _ _ (by omega) (by unfold sk; split <;> omega) (by unfold sk; split <;> omega)).1;have a2:D n (fun i k=>f (i+1) (sk j k))=D n (fun i k=>h (i+1) (sk j k)):=zDv fun i k hi hk=>(h1 _ _ (by omega) (by unfold sk; split <;> omega) (by unfold sk; split <;> omega)).2;rw [h2 0 (by omega),Int.add_mul,<-a1,<-a2]
  ·obtain ⟨b1,b2⟩:=h1 0 j (by omega) hj e;have b3:D n (fun i k=>f (i+1) (sk j k))=D n (fun i k=>g (i+1) (sk j k))+D n (fun i k=>h (i+1) (sk j k)):=by
    refine zHh (q:=if q<j then q else q-1) (by split <;> omega) (fun i k hi hk hne=>?_) (fun i hi=>?_)
    ·exact h1 _ _ (by omega) (by unfold sk; split <;> omega) (by unfold sk; split at hne <;> split <;> omega)
    ·have e2:sk j (if q<j then q else q-1)=q:=by
      unfold sk;by_cases hqj:q<j
      ·rw [if_pos hqj,if_pos hqj]
      ·rw [if_neg hqj,if_neg (by omega)]; omega
     simp only [e2];exact h2 _ (by omega)
   rw [b3,Int.mul_add,<-b1,<-b2]
theorem det_add {n q:Nat} {f g h:List (List Int)} (hq:q<n) (h1:∀i j,i<n→j<n→j≠q→en f i j=en g i j∧en f i j=en h i j) (h2:∀i,i<n→en f i q=en g i q+en h i q):det n f=det n g+det n h:=by
 rw [det_D,det_D,det_D]; exact zHh hq h1 h2
theorem zM0 {F:Nat→Int} {p:Nat}:∀{N:Nat},(∀j,j<N→j≠p→j≠p+1→F j=0)→sum F N=(if p<N then F p else 0)+(if p+1<N then F (p+1) else 0)
 | 0,_=>rfl
 | N+1,h=>by
  unfold sum;rw [zM0 (N:=N) (fun j hj=>h j (by omega))];by_cases e1:N=p
  ·subst e1;rw [if_neg (by omega),if_neg (by omega),if_pos (by omega),if_neg (by omega)]; omega
  ·by_cases e2:N=p+1
   ·subst e2;rw [if_pos (by omega),if_neg (by omega),if_pos (by omega),if_pos (by omega)]; omega
   ·rw [h N (by omega) e1 e2];by_cases e3:p<N
    ·rw [if_pos e3,if_pos (show p<N+1 by omega),if_pos (show p+1<N by omega),if_pos (show p+1<N+1 by omega)]; omega
    ·rw [if_neg e3,if_neg (show ¬p<N+1 by omega),if_neg (show ¬p+1<N by omega),if_neg (show ¬p+1<N+1 by omega)]; omega
theorem zHi:∀{n p:Nat} {f:Nat→Nat→Int},p+1<n→(∀i,i<n→f i p=f i (p+1))→D n f=0
 | 0,_,_,hp,_=>by omega
 | n+1,p,f,hp,h=>by
  unfold D;rw [zM0 (p:=p) fun j hj e1 e2=>?_,if_pos (by omega),if_pos hp]
  ·have e:D n (fun i k=>f (i+1) (sk p k))=D n (fun i k=>f (i+1) (sk (p+1) k)):=zDv fun i k hi hk=>by
    by_cases hkp:k=p
    ·subst hkp;have e1:sk k k=k+1:=by unfold sk; rw [if_neg (by omega)]
     have e2:sk (k+1) k=k:=by unfold sk; rw [if_pos (by omega)]
     rw [e1,e2];exact (h _ (by omega)).symm
    ·have e1:sk p k=sk (p+1) k:=by unfold sk; split <;> split <;> omega
     rw [e1]
   rw [e,h 0 (by omega)];unfold sgn;split <;> split <;> omega
  ·have e:D n (fun i k=>f (i+1) (sk j k))=0:=by
    refine zHi (p:=if p<j then p else p-1) (by split <;> omega) fun i hi=>?_;have e3:sk j (if p<j then p else p-1)=p:=by
     unfold sk;by_cases hpj:p<j
     ·rw [if_pos hpj,if_pos hpj]
     ·rw [if_neg hpj,if_neg (by omega)]; omega
    have e4:sk j ((if p<j then p else p-1)+1)=p+1:=by
     unfold sk;by_cases hpj:p<j
     ·rw [if_pos hpj,if_pos (by omega)]
     ·rw [if_neg hpj,if_neg (by omega)]; omega
    simp only [e3,e4];exact h _ (by omega)
   rw [e];unfold sgn;split <;> simp
def sw (p k:Nat):Nat:=if k=p then p+1 else if k=p+1 then p else k
theorem zU2 {n p:Nat} {f:Nat→Nat→Int} (hp:p+1<n):D n (fun i k=>f i (sw p k)) = -D n f:=by
 have z:=zHi (n:=n) (p:=p) (f:=fun i k=>if k=p∨k=p+1 then f i p+f i (p+1) else f i k) hp (fun i _=>by simp);have h1:=zHh (n:=n) (q:=p) (f:=fun i k=>if k=p∨k=p+1 then f i p+f i (p+1) else f i k) (g:=fun i k=>if k=p then f i p else if k=p+1 then f i p+f i (p+1) else f i k) (h:=fun i k=>if k=p then f i (p+1) else if k=p+1 then f i p+f i (p+1) else f i k) (by omega)
  (fun i j _ _ hne=>by simp [hne]) (fun i _=>by simp)
 have h2:=zHh (n:=n) (q:=p+1) (f:=fun i k=>if k=p then f i p else if k=p+1 then f i p+f i (p+1) else f i k) (g:=fun i k=>if k=p then f i p else if k=p+1 then f i p else f i k) (h:=f) hp
  (fun i j _ _ hne=>by by_cases e:j=p <;> simp [hne,e]) (fun i _=>by simp)
 have h3:=zHh (n:=n) (q:=p+1) (f:=fun i k=>if k=p then f i (p+1) else if k=p+1 then f i p+f i (p+1) else f i k) (g:=fun i k=>f i (sw p k)) (h:=fun i k=>if k=p then f i (p+1) else f i k) hp
  (fun i j _ _ hne=>by unfold sw; by_cases e:j=p <;> simp [hne,e]) (fun i _=>by unfold sw; simp)
 have z2:=zHi (n:=n) (p:=p) (f:=fun i k=>if k=p then f i p else if k=p+1 then f i p else f i k) hp (fun i _=>by simp);have z3:=zHi (n:=n) (p:=p) (f:=fun i k=>if k=p then f i (p+1) else f i k) hp (fun i _=>by simp);omega
theorem zNG:∀(m:Nat) {n p q:Nat} {f:Nat→Nat→Int},q=p+1+m→q<n→(∀i,i<n→f i p=f i q)→D n f=0
 | 0,n,p,q,f,e,hq,h=>zHi (p:=p) (by omega) (fun i hi=>by rw [h i hi,e])
 | m+1,n,p,q,f,e,hq,h=>by
  have h1:=zU2 (n:=n) (p:=q-1) (f:=f) (by omega);have h2:=zNG m (n:=n) (p:=p) (q:=q-1) (f:=fun i k=>f i (sw (q-1) k)) (by omega) (by omega) (fun i hi=>by
   have e1:sw (q-1) p=p:=by unfold sw; rw [if_neg (by omega),if_neg (by omega)]
   have e2:sw (q-1) (q-1)=q:=by unfold sw; rw [if_pos rfl]; omega
   simp only [e1,e2];exact h i hi)
  omega
theorem D_zero {n p q:Nat} {f:Nat→Nat→Int} (hp:p<n) (hq:q<n) (hne:p≠q) (h:∀i,i<n→f i p=f i q):D n f=0:=by
 rcases Nat.lt_or_gt_of_ne hne with h1 | h1
 ·exact zNG (q-p-1) (p:=p) (q:=q) (by omega) hq h
 ·exact zNG (p-q-1) (p:=q) (q:=p) (by omega) hp (fun i hi=>(h i hi).symm)
end Fin
open Go.RowKit
set_option maxRecDepth 20000
theorem zCS {c:List (List Int)} {n:Nat} (h:Sq c n) {v:List Int} (hv:v.length=n) {k i j:Nat} (hi:i<n) (hj:j<n):Fin.en (colM c k v) i j=if j=k then num v i else Fin.en c i j:=by
 have hr:c[i]? = some c[i]!:=by
  have:i<c.length:=by rw [h.len]; exact hi
  simp [this]
 generalize c[i]! = r at hr;have hx:v[i]? = some (num v i):=by
  have:i<v.length:=by rw [hv]; exact hi
  unfold num;simp [this]
 have hl:=h.row i r hr;have e:(colM c k v)[i]? = some (r.set k (num v i)):=by
  unfold colM;rw [List.getElem?_zipWith,hr,hx]
 unfold Fin.en;rw [e,hr];simp only [Option.getD_some];by_cases h1:j=k
 ·subst h1;rw [if_pos rfl,List.getElem?_set_self (by omega)];rfl
 ·rw [if_neg h1,List.getElem?_set_ne (fun e=>h1 e.symm)]
theorem zDr {c:List (List Int)} (hc:CartanP c):Sq c c.length:=⟨rfl,fun _ _ h=>hc.row _ (zWH h)⟩
theorem zFs {c:List (List Int)} (hc:CartanP c) {a b d:List Int} (ha:a.length=c.length) (hb:b.length=c.length) (hd:d.length=c.length) (h:∀i,i<c.length→num a i=num b i+num d i) {k:Nat} (hk:k<c.length):zAY c a k=zAY c b k+zAY c d k:=by
 unfold zAY;refine Fin.det_add hk (fun i j hi hj hne=>?_) (fun i hi=>?_)
 ·rw [zCS (zDr hc) ha hi hj,zCS (zDr hc) hb hi hj,zCS (zDr hc) hd hi hj,if_neg hne,if_neg hne,if_neg hne];exact ⟨rfl,rfl⟩
 ·rw [zCS (zDr hc) ha hi hk,zCS (zDr hc) hb hi hk,zCS (zDr hc) hd hi hk,if_pos rfl,if_pos rfl,if_pos rfl];exact h i hi
def colW (c:List (List Int)) (j:Nat):List Int:=(List.range c.length).map fun i=>ent c i j
theorem zKt {c:List (List Int)} {j i:Nat} (hi:i<c.length):num (colW c j) i=ent c i j:=zBE hi
theorem zOf {c:List (List Int)} (h:FinP c) {j k:Nat} (hj:j<c.length) (hk:k<c.length):zAY c (colW c j) k=if j=k then Fin.det c.length c else 0:=by
 have hc:=h.cart;have e0:∀i q,i<c.length→q<c.length→Fin.en (colM c k (colW c j)) i q=if q=k then ent c i j else Fin.en c i q:=fun i q hi hq=>by
  rw [zCS (zDr hc) (by simp [colW]) hi hq];split
  ·exact zKt hi
  ·rfl
 unfold zAY;by_cases e:j=k
 ·subst e;rw [if_pos rfl];refine Fin.det_congr fun i q hi hq=>?_;rw [e0 i q hi hq];split
  ·rename_i h1; subst h1; rfl
  ·rfl
 ·rw [if_neg e,Fin.det_D];refine Fin.D_zero hj hk e fun i hi=>?_;rw [e0 i j hi hj,e0 i k hi hk,if_neg e,if_pos rfl];rfl
def Lat (c:List (List Int)) (v:List Int) (m:Nat→Nat):Prop:=v.length=c.length∧∀i,i<c.length→num v i=Fin.sum (fun j=>(m j:Int)*ent c i j) c.length
theorem zFA {c:List (List Int)} (hc:CartanP c) {v:List Int} (hv:v.length=c.length) (h:∀i,i<c.length→num v i=0) {k:Nat} (hk:k<c.length):zAY c v k=0:=by
 have:=zFs hc hv hv hv (fun i hi=>by rw [h i hi]; rfl) hk;omega
def sumW (c:List (List Int)) (m:Nat→Nat) (q:Nat):List Int:=(List.range c.length).map fun i=>Fin.sum (fun j=>(m j:Int)*ent c i j) q
theorem zFQ {c:List (List Int)} {m:Nat→Nat} {q i:Nat} (hi:i<c.length):num (sumW c m q) i=Fin.sum (fun j=>(m j:Int)*ent c i j) q:=zBE hi
def mulW (c:List (List Int)) (a j:Nat):List Int:=(List.range c.length).map fun i=>(a:Int)*ent c i j
theorem zFP {c:List (List Int)} {a j i:Nat} (hi:i<c.length):num (mulW c a j) i=(a:Int)*ent c i j:=zBE hi
theorem zHm {c:List (List Int)} (h:FinP c) {j k:Nat} (hj:j<c.length) (hk:k<c.length):∀a:Nat,zAY c (mulW c a j) k=(a:Int)*(if j=k then Fin.det c.length c else 0)
 | 0=>by
  rw [zFA h.cart (by simp [mulW]) (fun i hi=>by rw [zFP hi]; simp) hk];simp
 | a+1=>by
  rw [zFs h.cart (b:=mulW c a j) (d:=colW c j) (by simp [mulW]) (by simp [mulW]) (by simp [colW]) (fun i hi=>by
   rw [zFP hi,zFP hi,zKt hi];push_cast;rw [Int.add_mul,Int.one_mul]) hk,zHm h hj hk a,zOf h hj hk]
  push_cast;rw [Int.add_mul,Int.one_mul]
theorem zHn {c:List (List Int)} (h:FinP c) {m:Nat→Nat} {k:Nat} (hk:k<c.length):∀q,q≤c.length→zAY c (sumW c m q) k=if k<q then (m k:Int)*Fin.det c.length c else 0
 | 0,_=>by
  rw [zFA h.cart (by simp [sumW]) (fun i hi=>by rw [zFQ hi]; rfl) hk];simp
 | q+1,hq=>by
  rw [zFs h.cart (b:=sumW c m q) (d:=mulW c (m q) q) (by simp [sumW]) (by simp [sumW]) (by simp [mulW]) (fun i hi=>by
   rw [zFQ hi,zFQ hi,zFP hi]; rfl) hk,zHn h hk q (by omega),zHm h (by omega) hk]
  by_cases h1:k<q
  ·rw [if_pos h1,if_neg (by omega),if_pos (by omega)]; simp
  ·by_cases h2:q=k
   ·subst h2; rw [if_neg h1,if_pos rfl,if_pos (by omega)]; simp
   ·rw [if_neg h1,if_neg h2,if_neg (by omega)]; simp
theorem zI2 {c:List (List Int)} (h:FinP c) {v:List Int} {m:Nat→Nat} (hv:Lat c v m) {k:Nat} (hk:k<c.length):zAY c v k=(m k:Int)*Fin.det c.length c:=by
 have e:zAY c v k=zAY c (sumW c m c.length) k:=by
  unfold zAY;refine Fin.det_congr fun i j hi hj=>?_;rw [zCS (zDr h.cart) hv.1 hi hj,zCS (zDr h.cart) (by simp [sumW]) hi hj,zFQ hi,hv.2 i hi]
 rw [e,zHn h hk _ (zWK _),if_pos hk]
theorem zTp {c:List (List Int)} (h:FinP c) {v:List Int} {m:Nat→Nat} (hv:Lat c v m):allW c v c.length=true:=zD6.2 fun k hk=>by
 rw [zI2 h hv hk];exact ⟨Int.mul_nonneg (Int.natCast_nonneg _) (Int.le_of_lt (zGb h)),Int.mul_tmod_left _ _⟩
theorem zTr {c:List (List Int)} (h:FinP c) {v:List Int} {m:Nat→Nat} (hv:Lat c v m):quos c v (Fin.det c.length c) c.length=(List.range c.length).map fun k=>(m k:Int):=by
 refine List.ext_getElem? fun k=>?_;unfold quos;rcases Nat.lt_or_ge k c.length with hk | hk
 ·rw [List.getElem?_map,zDK c v _ k hk,Option.map_some,zI2 h hv hk,List.getElem?_map,List.getElem?_range hk,Option.map_some,Int.mul_tdiv_cancel _ (by have:=zGb h; omega)]
 ·rw [List.getElem?_eq_none (by simp [zBW]; exact hk),List.getElem?_eq_none (by simp; exact hk)]
end Go.Proofs.YtphbichgpcicnaaGreatDoor
namespace Go.Proofs.YtphbichgpcicnaaGreatDoor
open Go.RowKit
set_option maxRecDepth 20000
theorem zEA (f g h:Nat→Int):∀n,Cox.dotN f (fun k=>g k+h k) n=Cox.dotN f g n+Cox.dotN f h n
 | 0=>rfl
 | n+1=>by simp only [Cox.dotN]; rw [zEA f g h n,Int.mul_add]; omega
theorem zHJ (f g:Nat→Int) (E:Nat→Nat→Int) (n:Nat):∀m,Cox.dotN f (fun i=>Cox.dotN (E i) g n) m=Cox.dotN g (fun j=>Cox.dotN f (fun i=>E i j) m) n
 | 0=>by
  show (0:Int)=Cox.dotN g (fun j=>0) n;rw [Cox.dotN_comm,Cox.dotN_zero fun _ _=>rfl]
 | m+1=>by
  show Cox.dotN f (fun i=>Cox.dotN (E i) g n) m+f m*Cox.dotN (E m) g n=Cox.dotN g (fun j=>Cox.dotN f (fun i=>E i j) m+f m*E m j) n;rw [zHJ f g E n m,zEA,Cox.dotN_scale,Cox.dotN_comm (E m) g]
theorem zD1 (m:Nat→Int) (f:Nat→Int):∀k,Fin.sum (fun j=>m j*f j) k=Cox.dotN m f k
 | 0=>rfl
 | k+1=>by simp only [Fin.sum,Cox.dotN]; rw [zD1 m f k]
theorem zOq {f g h:Nat→Int}:∀{n:Nat},(∀k,k<n→0≤h k)→(∀k,k<n→f k≤g k)→Cox.dotN f h n≤Cox.dotN g h n
 | 0,_,_=>Int.le_refl _
 | n+1,a,b=>by
  have h1:=zOq (n:=n) (fun k hk=>a k (by omega)) (fun k hk=>b k (by omega));have h2:=Int.mul_le_mul_of_nonneg_right (b n (by omega)) (a n (by omega));simp only [Cox.dotN];omega
theorem zNA {c:List (List Int)} (hc:CartanP c) {j:Nat} (hj:j<c.length) (b:Nat):Cox.dotN (fun i=>(dg b i:Int)) (fun i=>ent c i j) c.length=2*(dg b j:Int)-(upN c.length c j b:Int):=by
 have h:=zGs (E:=Cox.tr (ent c)) (i:=j) (b:=b) (hc.car.diag j hj) (n:=c.length) (fun k hk hne=>by
  have:=hc.car.off k j hk hj hne;show ent c k j≤0;omega)
 rw [if_pos hj,Cox.dotN_comm] at h;exact h
section
variable {c:List (List Int)}
theorem zTN (h:FinP c):∀b∈cors c,∃b0∈cors c,(∀k,k<c.length→num b k≤num b0 k)∧(∀j,j<c.length→0≤Cox.dotN (num b0) (fun i=>ent c i j) c.length)∧Cox.dotN (num b0) Cox.one c.length≤11:=fun b hb=>by
 have hc:=h.cart;have hk:=h.all zOU;obtain ⟨x,hx,rfl⟩:=List.mem_map.1 hb;unfold zSV at hk;simp only [List.all_eq_true,List.any_eq_true] at hk;obtain ⟨y,hy,hle⟩:=hk x hx;obtain ⟨hy1,hy2⟩:=List.mem_filter.1 hy;unfold domB at hy2;unfold leB at hle;simp only [Bool.and_eq_true,decide_eq_true_eq,List.all_eq_true,List.mem_range] at hy2 hle;refine ⟨zAM c.length y,List.mem_map.2 ⟨y,hy1,rfl⟩,fun k hk=>?_,fun j hj=>?_,?_⟩
 ·rw [zA7 hk,zA7 hk]; have:=hle k hk; omega
 ·rw [zA8 (f':=fun i=>(dg y i:Int)) (fun k hk=>zA7 hk),zNA hc hj];have:=hy2.2 j hj;omega
 ·rw [zGq (f:=dg y) (fun k hk=>zA7 hk)];have:=hy2.1;omega
theorem zPh (h:FinP c) {r:List Int} (hr:r∈prR c):∃b∈cors c,Cox.dotN (num r) (fun j=>Cox.dotN (num b) (fun i=>ent c i j) c.length) c.length=2:=by
 have hc:=h.cart;have hk:=h.all zOV;unfold prR at hr;split at hr
 ·rw [(zCP h.rq hc).2] at hr;obtain ⟨p,hp,rfl⟩:=List.mem_map.1 hr;unfold prsL at hp;obtain ⟨q,hq,rfl⟩:=List.mem_map.1 hp;unfold zSW at hk;simp only [List.all_eq_true,Bool.and_eq_true,decide_eq_true_eq,List.contains_eq_mem] at hk;obtain ⟨k1,k2⟩:=hk q hq;refine ⟨zAM c.length q.2,List.mem_map.2 ⟨q.2,k1,rfl⟩,?_⟩;show Cox.dotN (num (zAM c.length q.1)) _ c.length=2;rw [zA8 (f':=fun j=>(dg q.1 j:Int)) (fun k hk=>zA7 hk),Cox.dotN_congr (h:=fun j=>2*(dg q.2 j:Int)+(-1)*(upN c.length c j q.2:Int)) (fun j hj=>by
   rw [zA8 (f':=fun i=>(dg q.2 i:Int)) (fun k hk=>zA7 hk),zNA hc hj]; omega),Cox.dotN_add]
  have e1:∀(f g:Nat→Nat) (n:Nat),Cox.dotN (fun j=>(f j:Int)) (fun j=>(g j:Int)) n=(sumN (fun j=>f j*g j) n:Nat):=fun f g n=>by
   induction n with
   | zero=>rfl
   | succ n ih=>simp only [Cox.dotN,sumN]; rw [ih]; push_cast; rfl
  rw [e1,e1];omega
 ·simp at hr
theorem zGJ (h:FinP c) {r:List Int} (hr:r∈prR c):r.length=c.length∧(∀x∈r,0≤x)∧htR r≤12:=by
 have hc:=h.cart;unfold prR at hr;split at hr
 ·rw [(zCP h.rq hc).2] at hr;obtain ⟨p,hp,rfl⟩:=List.mem_map.1 hr;exact ⟨(h.rq.sh p hp).1,(h.rq.nn p hp).1,(h.rq.ht p hp).1⟩
 ·simp at hr
def Bd (c:List (List Int)) (B:Int) (v:List Int):Prop:=v.length=c.length∧∀b∈cors c,-B≤prL c.length b v∧prL c.length b v≤B
variable {B:Int} {v u x:List Int}
theorem Bd.wt (h:Bd c B v) (hB:B≤12012):Wt c (cors c) v:=⟨h.1,fun b hb=>by have:=h.2 b hb; omega⟩
theorem Bd.num (h:Bd c B v) (hF:FinP c) {i:Nat} (hi:i<c.length):-B≤num v i∧num v i≤B:=by
 have:=h.2 _ (hF.cor.unit i hi);rwa [zIj hi] at this
theorem Bd.step (h:Bd c B v) (hF:FinP c) (hB:B≤12012) {i:Nat} (hi:i<c.length):Bd c B (refl c i v):=by
 have hT:=hF.cor;have hc:=hF.cart;refine ⟨by rw [zA2]; exact h.1,fun b hb=>?_⟩;rw [(h.wt hB).turn hT hc hi];rcases List.mem_cons.1 ((zEZ hT hi).subset hb) with rfl | hb'
 ·rw [zIi hc hi];have:=h.num hF hi;omega
 ·have:cRef c.length c i b∈(cors c).erase (zBu c.length i):=(hT.perm i hi).subset (List.mem_map.2 ⟨b,hb',rfl⟩);exact h.2 _ (List.mem_of_mem_erase this)
theorem Bd.act (h:Bd c B v) (hF:FinP c) (hB:B≤12012):∀{w:List Nat},Cox.Lets c.length w→Bd c B (actN c w v)
 | [],_=>h
 | i::w,hw=>(Bd.act h hF hB (w:=w) (fun j hj=>hw j (List.mem_cons_of_mem _ hj))).step hF hB (hw i (List.mem_cons_self ..))
theorem Bd.rch (h:Bd c B v) (hF:FinP c) (hB:B≤12012) (hx:Rch c v x):Bd c B x:=by
 obtain ⟨w,hw,rfl⟩:=hx;exact h.act hF hB hw
theorem Bd.of_dm (hF:FinP c) (hx:Wt c (cors c) x) (h:Bd c B (dmL c x)) (hB:B≤12012):Bd c B x :=
 h.rch hF hB (Rch.symm hF.cor hF.cart hx (zOp hF.cor hF.cart hx).2)
structure Bel (c:List (List Int)) (v u:List Int) (N:Nat):Prop where
 len:u.length=c.length
 dm:dom u=true
 lat:∃m:Nat→Nat,Lat c (dfL v u) m∧sumN m c.length≤N
theorem zD0 {k:Nat} (hv:v.length=c.length) (hu:u.length=c.length) (hk:k<c.length):num (dfL v u) k=num v k-num u k:=by
 have h1:v[k]? = some v[k]:=zWG (by omega);have h2:u[k]? = some u[k]:=zWG (by omega);rw [zAS h1,zAS h2];exact zAS (by unfold dfL; rw [List.getElem?_zipWith,h1,h2])
theorem zHI (h:dom u=true) (k:Nat):0≤num u k:=by
 unfold num;cases e:u[k]? with
 | none=>simp
 | some x=>exact zIX.1 h x (zWH e)
theorem zKI (hF:FinP c) {b:List Int} (hb:b∈cors c) (k:Nat):0≤num b k:=by
 unfold num;cases e:b[k]? with
 | none=>simp
 | some x=>exact hF.cor.nonneg b hb x (zWH e)
theorem zTq {f:Nat→Int} {m:Nat→Nat} {y:List Int} (h:Lat c y m):Cox.dotN f (num y) c.length=Cox.dotN (fun j=>(m j:Int)) (fun j=>Cox.dotN f (fun i=>ent c i j) c.length) c.length:=by
 rw [Cox.dotN_congr (h:=fun i=>Cox.dotN (fun j=>ent c i j) (fun j=>(m j:Int)) c.length) (fun i hi=>by rw [h.2 i hi,zD1 (fun j=>(m j:Int)),Cox.dotN_comm]),zHJ]
theorem zMs (h:sm4 v=true) (k:Nat):0≤num v k∧num v k≤4:=by
 unfold num;cases e:v[k]? with
 | none=>simp
 | some x =>
  unfold sm4 at h;have:=List.all_eq_true.1 h x (zWH e);simpa using this
theorem Bel.bd (hF:FinP c) (hv:v.length=c.length) (h4:sm4 v=true) {N:Nat} (h:Bel c v u N):Bd c 44 u:=by
 refine ⟨h.len,fun b hb=>?_⟩;obtain ⟨m,hm,_⟩:=h.lat;obtain ⟨b0,hb0,k1,k2,k3⟩:=zTN hF b hb;have hun:=zHI h.dm;have g0:0≤Cox.dotN (num b) (num u) c.length:=Cox.dot_nonneg (fun k _=>zKI hF hb k) (fun k _=>hun k);have g1:Cox.dotN (num b) (num u) c.length≤Cox.dotN (num b0) (num u) c.length:=zOq (fun k _=>hun k) k1;have g2:Cox.dotN (num b0) (num v) c.length=Cox.dotN (num b0) (num u) c.length+Cox.dotN (num b0) (num (dfL v u)) c.length:=by
  rw [<-zEA];exact Cox.dotN_congr fun k hk=>by rw [zD0 hv h.len hk]; omega
 have g3:0≤Cox.dotN (num b0) (num (dfL v u)) c.length:=by
  rw [zTq hm];exact Cox.dot_nonneg (fun k _=>Int.natCast_nonneg _) k2
 have g4:=(zET (B:=4) (by omega) (n:=c.length) (fun k _=>zKI hF hb0 k) (fun k _=>by have:=zMs h4 k; omega:∀k,k<c.length→-4≤num v k∧num v k≤4)).2;unfold prL;omega
theorem zHS (hF:FinP c) {r:List Int} (hr:r∈prR c) {i:Nat} (hi:i<c.length):num (worR c r) i=Cox.dotN (fun j=>ent c i j) (num r) c.length∧-12000≤num (worR c r) i∧num (worR c r) i≤12000:=by
 have hc:=hF.cart;obtain ⟨hl,hn,ht⟩:=zGJ hF hr;have hrow:c[i]? = some c[i]:=zWG hi;have hrl:(c[i]).length=c.length:=hc.row _ (List.getElem_mem hi);have e1:num (worR c r) i=prI c[i] r c.length:=zAS (by unfold worR; rw [List.getElem?_map,hrow]; rfl);have h3:∀x∈c[i],-3≤x∧x≤3:=fun x hx=>by
  obtain ⟨j,hj,rfl⟩:=List.getElem_of_mem hx;have hjl:j<c.length:=by omega
  have ee:ent c i j=(c[i])[j]:=by unfold ent; rw [hrow]; simp [hj]
  have:=hc.ok i j hi hjl;unfold okE at this;rw [ee] at this;split at this
  ·simp at this; omega
  ·simp at this; omega
 have hsm:SmI 1000 r:=fun x hx=>by
  have:=hn x hx;have:=(zA3 hn).2 x hx;have ht':sumL r≤12:=ht;omega
 obtain ⟨p1,p2,p3⟩:=zHU hrl hl hc.le h3 hsm;rw [e1,p1];refine ⟨?_,p2,p3⟩;rw [zCx hrl hl];exact zA8 fun j hj=>by unfold num ent; rw [hrow]; rfl
theorem zRs {a b:List Int} {k:Nat} (ha:a.length=c.length) (hb:b.length=c.length) (hk:k<c.length) (h:-1000000≤num a k-num b k∧num a k-num b k≤1000000):num (subV a b) k=num a k-num b k:=by
 have:∀(a b:List Int) (k:Nat),k<a.length→k<b.length→num (subV a b) k=wrap64 (num a k-num b k):=by
  intro a
  induction a with
  | nil=>intro b k h; simp at h
  | cons x xs ih =>
   intro b k h h';cases b with
   | nil=>simp at h'
   | cons y ys =>
    cases k with
    | zero=>simp [subV,num]
    | succ k =>
     have:=ih ys k (by simpa using h) (by simpa using h');simpa [subV,num] using this
 rw [this a b k (by omega) (by omega)];unfold wrap64;omega
theorem zLU (f g:Nat→Nat):∀n,sumN (fun k=>f k+g k) n=sumN f n+sumN g n
 | 0=>rfl
 | n+1=>by simp only [sumN]; rw [zLU f g n]; omega
theorem zII:∀{r:List Int},(∀x∈r,0≤x)→(sumN (fun k=>(num r k).toNat) r.length:Int)=sumL r:=by
 intro r;have:∀(n:Nat) (r:List Int),n≤r.length→(∀x∈r,0≤x)→(sumN (fun k=>(num r k).toNat) n:Int)=sumL (r.take n):=by
  intro n
  induction n with
  | zero=>intro r _ _; simp [sumN,sumL]
  | succ n ih =>
   intro r hn h;have h1:r[n]? = some r[n]:=zWG (by omega);have h2:=h r[n] (List.getElem_mem (by omega));rw [zGO h1,<-ih r (by omega) h];simp only [sumN];rw [zAS h1];omega
 intro h;rw [this r.length r (zWK _) h,List.take_length]
theorem Bel.step (hF:FinP c) (hv:v.length=c.length) (h4:sm4 v=true) {N:Nat} (h:Bel c v u N) {r:List Int} (hr:r∈prR c) (hd:dom (subV u (worR c r))=true):Bel c v (subV u (worR c r)) (N+12):=by
 obtain ⟨hl,hn,ht⟩:=zGJ hF hr;have hwl:=zBN c r;have hsl:(subV u (worR c r)).length=c.length:=by rw [zBb (by rw [h.len,hwl]),h.len]
 obtain ⟨m,hm,hs⟩:=h.lat;refine ⟨hsl,hd,fun k=>m k+(num r k).toNat,⟨by unfold dfL; simp [hv,hsl],fun i hi=>?_⟩,?_⟩
 ·obtain ⟨w1,w2,w3⟩:=zHS hF hr hi;have w1:num (worR c r) i=Cox.dotN (ent c i) (num r) c.length:=w1;have hb:=(h.bd hF hv h4).num hF hi;rw [zD0 hv hsl hi,zRs h.len hwl hi (by omega)];have e1:=hm.2 i hi;rw [zD0 hv h.len hi] at e1;have hrn:∀k,0≤num r k:=fun k=>by
   unfold num;cases e:r[k]? with
   | none=>simp
   | some x=>exact hn x (zWH e)
  rw [zD1 (fun j=>((m j+(num r j).toNat:Nat):Int)),Cox.dotN_comm,Cox.dotN_congr (h:=fun j=>(m j:Int)+num r j) (fun k _=>by have:=hrn k; push_cast; omega),zEA];rw [zD1 (fun j=>(m j:Int)),Cox.dotN_comm] at e1;omega
 ·rw [zLU];have:=zII hn;rw [hl] at this;have ht':sumL r≤12:=ht;omega
def BelL (c:List (List Int)) (v:List Int) (q:List (List Int)):Prop:=∀(k:Nat) (x:List Int),q[k]? = some x→Bel c v x (12*k)
theorem zKA (hF:FinP c) (hv:v.length=c.length) (h4:sm4 v=true) {k:Nat} (hbu:Bel c v u (12*k)):∀{W q:List (List Int)},(∀r∈W,r∈dbW c)→k<q.length→BelL c v q→BelL c v (W.foldl (zBT u) q)
 | [],_,_,_,h=>h
 | r::W,q,hW,hk,h=>by
  rw [List.foldl_cons];have hlen:q.length≤(zBT u q r).length:=by unfold zBT; split <;> simp
  refine zKA hF hv h4 hbu (fun x hx=>hW x (List.mem_cons_of_mem _ hx)) (by omega) ?_;unfold zBT;split
  ·rename_i h1
   intro j x hx;rcases Nat.lt_or_ge j q.length with hj | hj
   ·rw [List.getElem?_append_left hj] at hx; exact h j x hx
   ·rw [List.getElem?_append_right hj] at hx;have hj0:j-q.length=0:=by
     rcases Nat.eq_zero_or_pos (j-q.length) with e | e
     ·exact e
     ·rw [List.getElem?_eq_none (by simp; omega)] at hx; cases hx
    rw [hj0] at hx;simp at hx;subst hx;obtain ⟨ρ,hρ,rfl⟩:=List.mem_map.1 (hW r (List.mem_cons_self ..));obtain ⟨a1,a2,m,a3,a4⟩:=hbu.step hF hv h4 hρ h1.1;exact ⟨a1,a2,m,a3,by omega⟩
  ·exact h
theorem zJ9 (hF:FinP c) (hv:v.length=c.length) (h4:sm4 v=true):∀{f k:Nat} {q s:List (List Int)},BelL c v q→zA9 (dbW c) f k q=some s→BelL c v s
 | 0,k,q,s,h,e=>by
  unfold zA9 at e;split at e
  ·cases e; exact h
  ·cases e
 | f+1,k,q,s,h,e=>by
  unfold zA9 at e;cases hk:q[k]? with
  | none=>rw [hk] at e; cases e; exact h
  | some u =>
   rw [hk] at e;simp only at e;split at e
   ·cases e
   ·exact zJ9 hF hv h4 (zKA hF hv h4 (h k u hk) (fun _ hr=>hr) (zWI hk).1 h) e
theorem zGZ (hF:FinP c) (hd:dbC c v=true):∀u∈dbR c v,Bel c v u 2400:=fun u hu=>by
 have hd':=hd;unfold dbC at hd';rw [Bool.and_eq_true,Bool.and_eq_true,decide_eq_true_eq] at hd';obtain ⟨h4,_,hv⟩:=hd';unfold dbR at hu;rw [if_pos hd] at hu;cases hs:dbQ c v with
 | none=>rw [hs] at hu; simp [zA5] at hu
 | some s =>
  obtain ⟨f1,f2⟩:=zGY hd hs;rw [hs,Option.getD_some,(zB9 (n:=c.length) f1.len).2] at hu;have hB:=zJ9 hF hv h4 (f:=201) (k:=0) (q:=[v]) (s:=s) (fun k x hx=>by
   have hk0:k=0:=by
    rcases Nat.eq_zero_or_pos k with e | e
    ·exact e
    ·rw [List.getElem?_eq_none (by simp; omega)] at hx; cases hx
   subst hk0;simp at hx;subst hx;refine ⟨hv,zIY h4,fun _=>0,⟨by unfold dfL; simp [hv],fun i hi=>?_⟩,?_⟩
   ·rw [zD0 hv hv hi,zD1 (fun _=>((0:Nat):Int)),Cox.dotN_zero (x:=fun _=>((0:Nat):Int)) (fun _ _=>rfl)]; omega
   ·have:∀n,sumN (fun _=>0) n=0:=fun n=>by
     induction n with
     | zero=>rfl
     | succ n ih=>simp [sumN,ih]
    rw [this]; exact Nat.zero_le _) hs
  obtain ⟨k,hk⟩:=List.getElem?_of_mem hu;have hkl:=(zWI hk).1;obtain ⟨a1,a2,m,a3,a4⟩:=hB k u hk;exact ⟨a1,a2,m,a3,by omega⟩
end
end Go.Proofs.YtphbichgpcicnaaGreatDoor
namespace Go.Proofs.YtphbichgpcicnaaGreatDoor
set_option maxRecDepth 20000
def minK (k:Nat→Int):Nat→Nat
 | 0=>0
 | i+1=>if k (i+1)<k (minK k i) then i+1 else minK k i
theorem zGg (k:Nat→Int):∀i,minK k i≤i
 | 0=>zWK _
 | i+1=>by
  unfold minK;have:=zGg k i;split <;> omega
theorem zEJ (k:Nat→Int):∀i j,j≤i→k (minK k i)≤k j
 | 0,j,h=>by
  obtain rfl:j=0:=by omega
  exact Int.le_refl _
 | i+1,j,h=>by
  unfold minK;split
  ·rename_i h1
   rcases Nat.lt_or_ge j (i+1) with h2 | h2
   ·have:=zEJ k i j (by omega); omega
   ·obtain rfl:j=i+1:=by omega
    exact Int.le_refl _
  ·rename_i h1
   rcases Nat.lt_or_ge j (i+1) with h2 | h2
   ·exact zEJ k i j (by omega)
   ·obtain rfl:j=i+1:=by omega
    omega
theorem zH0 (k:Nat→Int):∀i j,j<minK k i→k (minK k i)<k j
 | 0,j,h=>by simp [minK] at h
 | i+1,j,h=>by
  unfold minK at h ⊢;split
  ·rename_i h1
   rw [if_pos h1] at h;have:=zEJ k i j (by omega);omega
  ·rename_i h1
   rw [if_neg h1] at h;exact zH0 k i j h
section
variable {α:Type}
def zBl (h:α→Int) (L:List α) (j:Nat):Int:=((L.map h)[j]?).getD 0
theorem zFJ {h:α→Int} {L:List α} {j:Nat} {x:α} (hx:L[j]? = some x):zBl h L j=h x:=by unfold zBl; rw [List.getElem?_map,hx]; rfl
def selN (h:α→Int):Nat→List α→List α
 | 0,_=>[]
 |n+1,L=>match L[minK (zBl h L) (L.length-1)]? with
  | none=>[]
  | some x=>x::selN h n (L.eraseIdx (minK (zBl h L) (L.length-1)))
def Ahd (h:α→Int) (a b:α × Nat):Prop:=h a.1<h b.1∨h a.1=h b.1∧a.2<b.2
theorem Ahd.trans {h:α→Int} {a b c:α × Nat} (p:Ahd h a b) (q:Ahd h b c):Ahd h a c:=by unfold Ahd at *; omega
theorem zIG (h:α→Int):∀(n:Nat) {L T:List (α × Nat)},L.length=n→L.Pairwise (fun a b=>a.2<b.2)→T.Perm L→T.Pairwise (Ahd h)→T.map Prod.fst=selN h n (L.map Prod.fst)
 | 0,L,T,hn,_,hp,_=>by
  obtain rfl:=List.eq_nil_of_length_eq_zero hn;obtain rfl:=hp.eq_nil;rfl
 | n+1,L,[],hn,_,hp,_=>by have:=hp.length_eq; simp at this; omega
 | n+1,L,t::T,hn,hL,hp,hT=>by
  have hm:=zGg (zBl h (L.map Prod.fst)) ((L.map Prod.fst).length-1);have hmin:=zEJ (zBl h (L.map Prod.fst)) ((L.map Prod.fst).length-1);have hfst:=zH0 (zBl h (L.map Prod.fst)) ((L.map Prod.fst).length-1);have hlen:(L.map Prod.fst).length-1=n:=by rw [List.length_map,hn]; rfl
  unfold selN;simp only [hlen] at hm hmin hfst ⊢;generalize minK (zBl h (L.map Prod.fst)) n=m at *;have hml:m<L.length:=by omega
  obtain ⟨x,hx⟩:∃x,L[m]? = some x:=⟨_,zWG hml⟩;have kx:zBl h (L.map Prod.fst) m=h x.1:=zFJ (by rw [List.getElem?_map,hx]; rfl);rw [List.getElem?_map,hx];have htx:t=x:=by
   have hxT:x∈t::T:=hp.mem_iff.2 (zWH hx);rcases List.mem_cons.1 hxT with e | hxT
   ·exact e.symm
   ·exfalso;have h1:=(List.pairwise_cons.1 hT).1 x hxT;obtain ⟨j,hj⟩:=List.getElem?_of_mem (hp.mem_iff.1 (List.mem_cons_self ..:t∈t::T));have hjl:j<L.length:=(zWI hj).1;have kj:zBl h (L.map Prod.fst) j=h t.1:=zFJ (by rw [List.getElem?_map,hj]; rfl);have h2:=hmin j (by omega);rcases h1 with h1 | ⟨h1,h3⟩
    ·omega
    ·rcases Nat.lt_trichotomy j m with h4 | h4 | h4
     ·have:=hfst j h4; omega
     ·subst h4; rw [hx] at hj; cases hj; omega
     ·obtain ⟨l1,e1⟩:=zWI hx;obtain ⟨l2,e2⟩:=zWI hj;have:=List.pairwise_iff_getElem.1 hL m j l1 l2 h4;rw [e1,e2] at this;omega
  subst htx;have hp2:T.Perm (L.eraseIdx m):=by
   have h1:L.Perm (t::L.eraseIdx m):=by
    rw [List.eraseIdx_eq_take_drop_succ];have e:L=L.take m++t::L.drop (m+1):=by rw [<-zAC hx,List.take_append_drop]
    exact (List.Perm.of_eq e).trans List.perm_middle
   exact (hp.trans h1).cons_inv
  have hr:=zIG h n (L:=L.eraseIdx m) (T:=T) (by rw [List.length_eraseIdx]; split <;> omega) (hL.sublist (List.eraseIdx_sublist L m)) hp2 (List.pairwise_cons.1 hT).2;show t.1::T.map Prod.fst=t.1::selN h n ((L.map Prod.fst).eraseIdx m);rw [hr,List.eraseIdx_eq_take_drop_succ,List.eraseIdx_eq_take_drop_succ,List.map_append,List.map_take,List.map_drop]
end
end Go.Proofs.YtphbichgpcicnaaGreatDoor
namespace Go.Proofs.YtphbichgpcicnaaGreatDoor
open Go.RowKit
set_option maxRecDepth 20000
theorem zUz (x:Int):∃q:Int,wrap64 x=x+18446744073709551616*q:=⟨-((x+9223372036854775808) / 18446744073709551616),by unfold wrap64; omega⟩
theorem zL3 (x q:Int):wrap64 (x+18446744073709551616*q)=wrap64 x:=by unfold wrap64; omega
theorem zIP (x y:Int):wrap64 (wrap64 x+y)=wrap64 (x+y):=by unfold wrap64; omega
theorem zDs (x y:Int):wrap64 (x+wrap64 y)=wrap64 (x+y):=by unfold wrap64; omega
theorem zIQ (x y:Int):wrap64 (wrap64 x*y)=wrap64 (x*y):=by
 obtain ⟨q,h⟩:=zUz x;rw [h,Int.add_mul,Int.mul_assoc,zL3]
theorem zIR (x y:Int):wrap64 (x*wrap64 y)=wrap64 (x*y):=by rw [Int.mul_comm,zIQ,Int.mul_comm]
def xAt (u s:List Int) (k:Nat):List Int:=List.zipWith (fun a b=>a+(k:Int)*b) u s
theorem zDu {u s:List Int} {k n:Nat} (hu:u.length=n) (hs:s.length=n):(xAt u s k).length=n:=by simp [xAt,hu,hs]
theorem zEx {u s:List Int} {k n i:Nat} (hu:u.length=n) (hs:s.length=n) (hi:i<n):num (xAt u s k) i=num u i+(k:Int)*num s i:=by
 have h1:u[i]? = some u[i]:=zWG (by omega);have h2:s[i]? = some s[i]:=zWG (by omega);rw [zAS h1,zAS h2];exact zAS (by unfold xAt; rw [List.getElem?_zipWith,h1,h2])
theorem zSQ {u s:List Int} (h:u.length=s.length):xAt u s 0=u:=by
 unfold xAt;refine List.ext_getElem (by simp [h]) fun i h1 h2=>?_;simp
theorem zHR:∀{a b:List Int} {k:Nat},k<a.length→k<b.length→num (addW a b) k=wrap64 (num a k+num b k)
 | [],_,_,h,_=>by simp at h
 | _::_,[],_,_,h=>by simp at h
 | x::xs,y::ys,0,_,_=>by simp [addW,num]
 | x::xs,y::ys,k+1,h,h'=>by
  have:=zHR (a:=xs) (b:=ys) (k:=k) (by simpa using h) (by simpa using h');simpa [addW,num] using this
def pT (d r x:List Int) (n:Nat):Int:=smI (fun k=>num r k*num d k*num x k) n
def mAt (c:List (List Int)) (K:List Wtd) (u s:List Int) (k:Nat):Int:=zAn (dmL c (xAt u s k)) K
def tStr (c:List (List Int)) (K:List Wtd) (d r u s:List Int):Nat→Nat→Int
 | 0,_=>0
 | f+1,k=>if mAt c K u s (k+1)=0 then 0 else mAt c K u s (k+1)*pT d r (xAt u s (k+1)) c.length+tStr c K d r u s f (k+1)
def frT (c:List (List Int)) (K:List Wtd) (d u:List Int) (roots:List (List Int)):Int:=sumL (roots.map fun r=>tStr c K d r u (worR c r) 60 0)
def dep (c:List (List Int)) (v u:List Int):List Int:=quos c (dfL v u) (Fin.det c.length c) c.length
def frD (c:List (List Int)) (d v u:List Int) (n:Nat):Int:=smI (fun k=>num (dep c v u) k*num d k*(num v k+num u k+2)) n
def mltF (c:List (List Int)) (v:List Int) (K:List Wtd) (u:List Int):Int:=if v=u then 1 else (wrap64 (2*frT c K (smR c) u (prR c))).tdiv (frD c (smR c) v u c.length)
def zVc (c:List (List Int)) (v:List Int) (K:List Wtd) (u:List Int):List Wtd:=K++[(u,mltF c v K u)]
def htV (c:List (List Int)) (v u:List Int):Int:=htR (dep c v u)
def mltL (c:List (List Int)) (v:List Int):List (List Int):=selN (htV c v) (dbR c v).length (dbR c v)
def mltK (c:List (List Int)) (v:List Int) (k:Nat):List Wtd:=((mltL c v).take k).foldl (zVc c v) []
theorem zJF {c:List (List Int)} {v u:List Int} {k:Nat} (h:(mltL c v)[k]? = some u):mltK c v (k+1)=mltK c v k++[(u,mltF c v (mltK c v k) u)]:=by
 unfold mltK;rw [zAG h,List.foldl_append];rfl
theorem zC3 (c:List (List Int)) (v:List Int):∀k,(mltK c v k).map Prod.fst=(mltL c v).take k
 | 0=>by simp [mltK]
 | k+1=>by
  cases h:(mltL c v)[k]? with
  | none =>
   have hl:(mltL c v).length≤k:=List.getElem?_eq_none_iff.1 h;have e:mltK c v (k+1)=mltK c v k:=by unfold mltK; rw [List.take_of_length_le (by omega),List.take_of_length_le hl]
   rw [e,zC3 c v k,List.take_of_length_le hl,List.take_of_length_le (by omega)]
  | some u=>rw [zJF h,List.map_append,zC3 c v k,zAG h]; rfl
theorem zRj {c:List (List Int)} {v:List Int} {k:Nat} (h:k≤(mltL c v).length):(mltK c v k).length=k:=by
 have:=congrArg List.length (zC3 c v k);rw [List.length_map,List.length_take] at this;omega
theorem zHp:∀{K:List Wtd} {l:List Int},zAn l K≠0→∃e∈K,e.1=l
 | [],_,h=>absurd rfl h
 | e::K,l,h=>by
  unfold zAn at h;by_cases he:eqL e.1 l=true
  ·exact ⟨e,List.mem_cons_self ..,by unfold eqL at he; exact of_decide_eq_true he⟩
  ·rw [if_neg he] at h;obtain ⟨f,hf,e2⟩:=zHp h;exact ⟨f,List.mem_cons_of_mem _ hf,e2⟩
section
variable {c:List (List Int)} {v u r:List Int} {K:List Wtd}
structure Frd (c:List (List Int)) (v:List Int) (K:List Wtd):Prop where
 fin:FinP c
 db:dbC c v=true
 sub:∀e∈K,e.1∈dbR c v
theorem Frd.v4 (h:Frd c v K):sm4 v=true∧v.length=c.length:=by
 have:=h.db;unfold dbC at this;rw [Bool.and_eq_true,Bool.and_eq_true,decide_eq_true_eq] at this;exact ⟨this.1,this.2.2⟩
theorem Frd.fb (h:Frd c v K):finB c=true:=by
 have:=h.db;unfold dbC at this;rw [Bool.and_eq_true,Bool.and_eq_true] at this;exact this.2.1
theorem Frd.bd (h:Frd c v K) (hu:u∈dbR c v):Bd c 44 u:=(zGZ h.fin h.db u hu).bd h.fin h.v4.2 h.v4.1
theorem zQO (hF:FinP c) (hr:r∈prR c) {i:Nat} (hi:i<c.length):-36≤num (worR c r) i∧num (worR c r) i≤36:=by
 obtain ⟨hl,hn,ht⟩:=zGJ hF hr;obtain ⟨e,_,_⟩:=zHS hF hr hi;have hc:=hF.cart;have h1:∀j,j<c.length→-3≤ent c i j∧ent c i j≤3:=fun j hj=>by
  have:=hc.ok i j hi hj;unfold okE at this;split at this
  ·simp at this; omega
  ·simp at this; omega
 have h2:=zET (B:=3) (x:=num r) (m:=fun j=>ent c i j) (by omega) (n:=c.length) (fun k hk=>hn _ (zBB hl hk)) h1;have h3:Cox.dotN (num r) Cox.one c.length=sumL r:=by
  have:=zII hn;rw [hl] at this;rw [<-this];exact zGq (f:=fun k=>(num r k).toNat) (fun k hk=>by have:=hn _ (zBB hl hk); omega)
 rw [e,Cox.dotN_comm];have ht':sumL r≤12:=ht;omega
theorem zDb (h:Frd c v K) (hu:u∈dbR c v) (hr:r∈prR c) {k:Nat} (hk:k≤23):(xAt u (worR c r) k).length=c.length∧(∀i,i<c.length→-900≤num (xAt u (worR c r) k) i∧num (xAt u (worR c r) k) i≤900)∧∀x∈xAt u (worR c r) k,-900≤x∧x≤900:=by
 have hb:=h.bd hu;have hwl:=zBN c r;have hl:=zDu (k:=k) hb.1 hwl;have hn:∀i,i<c.length→-900≤num (xAt u (worR c r) k) i∧num (xAt u (worR c r) k) i≤900:=fun i hi=>by
  rw [zEx hb.1 hwl hi];have h1:=hb.num h.fin hi;have h2:=zQO h.fin hr hi;have h3:(k:Int)*num (worR c r) i≤(k:Int)*36:=Int.mul_le_mul_of_nonneg_left h2.2 (Int.natCast_nonneg _);have h4:(k:Int)*(-36)≤(k:Int)*num (worR c r) i:=Int.mul_le_mul_of_nonneg_left h2.1 (Int.natCast_nonneg _);omega
 refine ⟨hl,hn,fun x hx=>?_⟩;obtain ⟨i,hi⟩:=List.getElem?_of_mem hx;have hil:=(zWI hi).1;have:=hn i (by omega);rwa [zAS hi] at this
theorem zVu (h:Frd c v K) (hu:u∈dbR c v) (hr:r∈prR c) {k:Nat} (hk:k≤23):Wt c (cors c) (xAt u (worR c r) k):=by
 obtain ⟨h1,_,h3⟩:=zDb h hu hr hk;exact zHf h.fin.cor h1 (fun x hx=>by have:=h3 x hx; omega)
theorem zVt (h:Frd c v K) (hu:u∈dbR c v) (hr:r∈prR c) {k:Nat} (hk:k≤23):zBG c (xAt u (worR c r) k)=true:=by
 obtain ⟨h1,_,h3⟩:=zDb h hu hr hk;unfold zBG isW;rw [h.fb,zAK.2 h.fin.cart,h1];simp only [decide_true,Bool.true_and,Bool.and_true];exact zCu.2 fun x hx=>by have:=h3 x hx; unfold wtB; exact zBx (by omega)
theorem zUW (h:Frd c v K) (hu:u∈dbR c v) (hr:r∈prR c) {k:Nat} (hk:k≤23) (hm:mAt c K u (worR c r) k≠0):k≤22:=by
 obtain ⟨e,he,e1⟩:=zHp hm;have hd:Bd c 44 (dmL c (xAt u (worR c r) k)):=by rw [<-e1]; exact h.bd (h.sub e he)
 have hx:=Bd.of_dm h.fin (zVu h hu hr hk) hd (by omega);obtain ⟨b,hb,hp⟩:=zPh h.fin hr;have h1:=(hx.2 b hb).2;have hbu:=h.bd hu;have hwl:=zBN c r;have h2:prL c.length b (xAt u (worR c r) k)=prL c.length b u+(k:Int)*2:=by
  unfold prL;rw [Cox.dotN_congr (h:=fun i=>num u i+(k:Int)*num (worR c r) i) (fun i hi=>zEx hbu.1 hwl hi),zEA,Cox.dotN_scale];congr 2;rw [<-hp,Cox.dotN_congr (h:=fun i=>Cox.dotN (fun j=>ent c i j) (num r) c.length) (fun i hi=>(zHS h.fin hr hi).1),zHJ]
 have h3:0≤prL c.length b u:=by
  have:=(zGZ h.fin h.db u hu).dm;exact Cox.dot_nonneg (fun k _=>zKI h.fin hb k) (fun k _=>zHI this k)
 omega
theorem zJY (f k:Nat) (d s:List Int):tStr c K d r u s (f+1) k=if mAt c K u s (k+1)=0 then 0 else mAt c K u s (k+1)*pT d r (xAt u s (k+1)) c.length+tStr c K d r u s f (k+1):=rfl
theorem zSP (h:Frd c v K) (hu:u∈dbR c v) (hr:r∈prR c) {k:Nat} (hk:k≤22):addW (xAt u (worR c r) k) (worR c r)=xAt u (worR c r) (k+1):=by
 have hb:=h.bd hu;have hwl:=zBN c r;have l0:=zDu (k:=k) hb.1 hwl;refine zBz (n:=c.length) (by rw [zCX,l0,hwl]; omega) (zDu hb.1 hwl) fun i hi=>?_;rw [zHR (by omega) (by omega),zEx hb.1 hwl hi,zEx hb.1 hwl hi];have h1:=(zDb h hu hr (k:=k+1) (by omega)).2.1 i hi;rw [zEx hb.1 hwl hi] at h1;have e:num u i+(k:Int)*num (worR c r) i+num (worR c r) i=num u i+((k+1:Nat):Int)*num (worR c r) i:=by push_cast; rw [Int.add_mul,Int.one_mul]; omega
 rw [e];unfold wrap64; omega
theorem zP0 (hF:FinP c) (hb:finB c=true):(smR c).length=c.length∧∀x∈smR c,0<x∧x≤1000:=by
 unfold smR;rw [if_pos hb];exact hF.sym.2.2
theorem zDL (h:Frd c v K) (hu:u∈dbR c v):allW c (dfL v u) c.length=true∧∃m:Nat→Nat,dep c v u=(List.range c.length).map (fun k=>(m k:Int))∧sumN m c.length≤2400∧htV c v u=(sumN m c.length:Int)∧(sumN m c.length=0→u=v):=by
 have hB:=zGZ h.fin h.db u hu;obtain ⟨m,hm,hs⟩:=hB.lat;have e:dep c v u=(List.range c.length).map (fun k=>(m k:Int)):=zTr h.fin hm;refine ⟨zTp h.fin hm,m,e,hs,?_,fun h0=>?_⟩
 ·unfold htV;rw [e];have:∀n,sumL ((List.range n).map fun k=>(m k:Int))=(sumN m n:Int):=fun n=>by
   induction n with
   | zero=>rfl
   | succ n ih=>rw [List.range_succ,List.map_append,List.map_cons,List.map_nil,zDZ,ih]; simp [sumN]
  exact this _
 ·have hz:∀n,sumN m n=0→∀k,k<n→m k=0:=fun n=>by
   induction n with
   | zero=>intro _ k hk; omega
   | succ n ih =>
    intro h1 k hk;simp only [sumN] at h1;rcases Nat.lt_or_ge k n with h2 | h2
    ·exact ih (by omega) k h2
    ·obtain rfl:k=n:=by omega
     omega
  refine zBz (n:=c.length) hB.len h.v4.2 fun i hi=>?_;have e1:=hm.2 i hi;rw [zD0 h.v4.2 hB.len hi,zD1 (fun j=>(m j:Int)),Cox.dotN_zero (fun k hk=>by rw [hz _ h0 k hk]; rfl)] at e1;omega
theorem zGM {f:Nat→Int} {B:Int} (hB:0≤B):∀{n:Nat},(∀k,k<n→0≤f k∧f k≤B)→0≤smI f n∧smI f n≤B*n∧∀k,k<n→f k≤smI f n
 | 0,_=>⟨Int.le_refl _,by simp [smI],fun k hk=>by omega⟩
 | n+1,h=>by
  obtain ⟨a1,a2,a3⟩:=zGM hB (n:=n) (fun k hk=>h k (by omega));have:=h n (by omega);simp only [smI];refine ⟨by omega,by push_cast; rw [Int.mul_add,Int.mul_one]; omega,fun k hk=>?_⟩;rcases Nat.lt_or_ge k n with h2 | h2
  ·have:=a3 k h2; omega
  ·obtain rfl:k=n:=by omega
   omega
theorem zEE (h:Frd c v K) (hu:u∈dbR c v) {k:Nat} (hk:k<c.length):0≤num (dep c v u) k*num (smR c) k*(num v k+num u k+2)∧num (dep c v u) k*num (smR c) k*(num v k+num u k+2)≤2400*1000*50∧(0<num (dep c v u) k→0<num (dep c v u) k*num (smR c) k*(num v k+num u k+2)):=by
 obtain ⟨_,m,e,hs,_,_⟩:=zDL h hu;have h1:num (dep c v u) k=(m k:Int):=by rw [e]; exact zBE hk
 have h2:m k≤2400:=by
  have:∀n,k<n→m k≤sumN m n:=fun n=>by
   induction n with
   | zero=>intro h; omega
   | succ n ih =>
    intro h3;simp only [sumN];rcases Nat.lt_or_ge k n with h4 | h4
    ·have:=ih h4; omega
    ·obtain rfl:k=n:=by omega
     omega
  have:=this _ hk;omega
 obtain ⟨s1,s2⟩:=zP0 h.fin h.fb;have h3:=s2 _ (zBB s1 hk);have h4:=zMs h.v4.1 k;have h5:=(h.bd hu).num h.fin hk;have h6:=zHI (zGZ h.fin h.db u hu).dm k;rw [h1];have ht:0<num v k+num u k+2∧num v k+num u k+2≤50:=by omega
 generalize num (smR c) k=d at *;generalize num v k+num u k+2=t at *;have g1:0≤(m k:Int)*d:=Int.mul_nonneg (Int.natCast_nonneg _) (by omega);have g2:(m k:Int)*d≤2400*1000:=Int.mul_le_mul (by omega) h3.2 (by omega) (by omega);refine ⟨Int.mul_nonneg g1 (by omega),Int.mul_le_mul g2 ht.2 (by omega) (by omega),fun h7=>?_⟩;exact Int.mul_pos (Int.mul_pos h7 h3.1) ht.1
theorem zVV (h:Frd c v K) (hu:u∈dbR c v) {n:Nat} (hn:n≤c.length):0≤frD c (smR c) v u n∧frD c (smR c) v u n≤480000000:=by
 obtain ⟨a1,a2,_⟩:=zGM (f:=fun k=>num (dep c v u) k*num (smR c) k*(num v k+num u k+2)) (B:=2400*1000*50) (by omega) (n:=n) (fun k hk=>⟨(zEE h hu (by omega)).1,(zEE h hu (by omega)).2.1⟩);have:=h.fin.cart.le;refine ⟨a1,Int.le_trans a2 ?_⟩;have:(n:Int)≤4:=by omega
 have:(2400*1000*50:Int)*n≤2400*1000*50*4:=Int.mul_le_mul_of_nonneg_left this (by omega);omega
theorem zTf (h:Frd c v K) (hu:u∈dbR c v) (hne:v≠u):0<frD c (smR c) v u c.length:=by
 obtain ⟨_,m,e,hs,_,h0⟩:=zDL h hu;have:∃k,k<c.length∧0<m k:=by
  have:∀n,sumN m n≠0→∃k,k<n∧0<m k:=fun n=>by
   induction n with
   | zero=>intro h; exact absurd rfl h
   | succ n ih =>
    intro h1;simp only [sumN] at h1;by_cases h2:sumN m n=0
    ·exact ⟨n,by omega,by omega⟩
    ·obtain ⟨k,k1,k2⟩:=ih h2;exact ⟨k,by omega,k2⟩
  exact this _ fun h1=>hne (h0 h1).symm
 obtain ⟨k,hk,hp⟩:=this;have h1:=(zEE h hu hk).2.2 (by rw [e,zBE hk]; omega);have h2:=(zGM (f:=fun k=>num (dep c v u) k*num (smR c) k*(num v k+num u k+2)) (B:=2400*1000*50) (by omega) (n:=c.length) (fun k hk=>⟨(zEE h hu hk).1,(zEE h hu hk).2.1⟩)).2.2 k hk;show 0<smI _ _;exact Int.lt_of_lt_of_le h1 h2
end
end Go.Proofs.YtphbichgpcicnaaGreatDoor
namespace Go.Proofs.YtphbichgpcicnaaGreatDoor
open Go.RowKit
set_option maxRecDepth 20000
def zCW (c:List (List Int)):List (List Int)→List (List Int)→Option (List (List Int))
 | [],acc=>some acc
 | u::ls,acc=>if obOk c u=true∧acc.length+(obR c u).length≤200 then zCW c ls (acc++obR c u) else none
def wsQ (c:List (List Int)) (v:List Int):Option (List (List Int)):=zCW c (dbR c v) []
def wsOk (c:List (List Int)) (v:List Int):Bool:=dbOk c v && (wsQ c v).isSome
def wsR (c:List (List Int)) (v:List Int):List (List Int):=if dbOk c v=true then zA5 ((wsQ c v).getD []) else []
def WsC (c:List (List Int)) (v:List Int) (w:World) (e:Ending) (w':World):Prop:=∃r,e=.returned (.tuple #[r,.bool (wsOk c v)])∧FII (New w w') w' r (wsR c v)∧Below w.heap.size w w'
theorem zDt (c ls acc:List (List Int)) (u:List Int):zCW c (u::ls) acc=if obOk c u=true∧acc.length+(obR c u).length≤200 then zCW c ls (acc++obR c u) else none:=rfl
theorem zQU {c ls acc:List (List Int)} {u:List Int} (h1:obOk c u=true) (h2:acc.length+(obR c u).length≤200):zCW c (u::ls) acc=zCW c ls (acc++obR c u):=by rw [zDt,if_pos ⟨h1,h2⟩]
theorem zQS {c ls acc:List (List Int)} {u:List Int} (h1:obOk c u=false):zCW c (u::ls) acc=none:=by rw [zDt,if_neg (fun h=>by rw [h1] at h; cases h.1)]
theorem zQT {c ls acc:List (List Int)} {u:List Int} (h2:200<acc.length+(obR c u).length):zCW c (u::ls) acc=none:=by rw [zDt,if_neg (fun h=>by have:=h.2; omega)]
theorem zDM:∀{v:List Int},dom v=true→zAH v=none
 | [],_=>rfl
 | x::v,h=>by
  unfold dom at h;unfold zAH;by_cases hx:x<0
  ·rw [if_pos hx] at h; cases h
  ·rw [if_neg hx] at h;rw [if_neg hx,zDM h]; rfl
theorem zGC {n:Nat} {l:List (List Int)} (h:Dsc n l):l.Nodup:=h.srt.imp (fun {a b} hab e=>by subst e; rw [zCk] at hab; cases hab)
theorem zIA {n:Nat} {q:List (List Int)} (hn:q.Nodup) (hl:∀x∈q,x.length=n):(zA5 q).Perm q:=by
 obtain ⟨h1,h2⟩:=zB9 hl;exact (List.perm_ext_iff_of_nodup (zGC h1) hn).2 h2
theorem zGE {c:List (List Int)} {u:List Int} (h:obOk c u=true) (hd:dom u=true):(obR c u).Nodup∧(∀x∈obR c u,x.length=c.length∧Rch c u x)∧CartanP c∧Cor c (cors c)∧Wt c (cors c) u:=by
 unfold obOk at h;rw [Bool.and_eq_true] at h;obtain ⟨h1,h2⟩:=h;obtain ⟨hf,hc,hT,hw⟩:=zBn h1;have e0:=zKL (c:=c) (zDM hd);have q0:QOk c u 0 [u]:=⟨zCb _,by simp,Nat.zero_le _,fun x hx=>by rw [List.mem_singleton] at hx; subst hx; exact Rch.refl c _,List.mem_singleton.2 rfl,fun j x hj=>by omega⟩;have hor:obR c u=zA5 ((obQ c u).getD []):=by unfold obR; rw [if_pos h1]
 have hq:obQ c u=qBfs c 201 0 [u]:=by unfold obQ; rw [e0]
 rcases zEy 201 0 [u] q0 (by omega) with ⟨r,er,hn,_,hr,_,_⟩ | ⟨er,_⟩
 ·rw [hor,hq,er,Option.getD_some];have hl:∀x∈r,x.length=c.length:=fun x hx=>(Rch.wt hT hc hw.1 (hr x hx)).len;obtain ⟨a,b⟩:=zB9 hl;exact ⟨zGC a,fun x hx=>⟨a.len x hx,hr x ((b x).1 hx)⟩,hc,hT,hw.1⟩
 ·rw [hq,er] at h2; cases h2
theorem zV6 {c:List (List Int)} {u:List Int} (h:obOk c u=true) (hd:dom u=true):obR c u≠[]:=by
 unfold obOk at h;rw [Bool.and_eq_true] at h;obtain ⟨h1,h2⟩:=h;obtain ⟨hf,hc,hT,hw⟩:=zBn h1;have e0:=zKL (c:=c) (zDM hd);have q0:QOk c u 0 [u]:=⟨zCb _,by simp,Nat.zero_le _,fun x hx=>by rw [List.mem_singleton] at hx; subst hx; exact Rch.refl c _,List.mem_singleton.2 rfl,fun j x hj=>by omega⟩;have hor:obR c u=zA5 ((obQ c u).getD []):=by unfold obR; rw [if_pos h1]
 have hq:obQ c u=qBfs c 201 0 [u]:=by unfold obQ; rw [e0]
 rcases zEy 201 0 [u] q0 (by omega) with ⟨r,er,hn,_,hr,hm,_⟩ | ⟨er,_⟩
 ·rw [hor,hq,er,Option.getD_some];intro e;have:=((zB9 (n:=c.length) (fun x hx=>(Rch.wt hT hc hw.1 (hr x hx)).len)).2 u).2 hm;rw [e] at this; cases this
 ·rw [hq,er] at h2; cases h2
theorem zRv {c:List (List Int)} {u u':List Int} (h:obOk c u=true) (hd:dom u=true) (h':obOk c u'=true) (hd':dom u'=true) {x:List Int} (hx:x∈obR c u) (hx':x∈obR c u'):u'=u:=by
 obtain ⟨_,a,hc,hT,hw⟩:=zGE h hd;obtain ⟨_,a',_,_,hw'⟩:=zGE h' hd';exact zMM hT hc hw ((a x hx).2.trans (Rch.symm hT hc hw' (a' x hx').2)) (zDM hd) (zDM hd')
structure WsI (c:List (List Int)) (L:List (List Int)) (k:Nat) (acc:List (List Int)):Prop where
 nd:acc.Nodup
 len:∀x∈acc,x.length=c.length
 src:∀x∈acc,∃j u,j<k∧L[j]? = some u∧obOk c u=true∧x∈obR c u
theorem WsI.start (c L:List (List Int)):WsI c L 0 []:=⟨List.nodup_nil,fun x hx=>by simp at hx,fun x hx=>by simp at hx⟩
theorem WsI.step {c L acc:List (List Int)} {k:Nat} {u:List Int} (h:WsI c L k acc) (hL:L.Nodup) (hd:∀x∈L,dom x=true) (hu:L[k]? = some u) (ho:obOk c u=true):WsI c L (k+1) (acc++obR c u):=by
 obtain ⟨a1,a2,_⟩:=zGE ho (hd u (zWH hu));refine ⟨List.nodup_append.2 ⟨h.nd,a1,fun x hx y hy e=>?_⟩,fun x hx=>?_,fun x hx=>?_⟩
 ·subst e;obtain ⟨j,u',hj,hu',ho',hx'⟩:=h.src x hx;have e:=zRv ho' (hd u' (zWH hu')) ho (hd u (zWH hu)) hx' hy;subst e;have hlt:=(zWI hu').1;have:=(List.getElem?_inj hlt hL).1 (hu'.trans hu.symm);omega
 ·rcases List.mem_append.1 hx with hx | hx
  ·exact h.len x hx
  ·exact (a2 x hx).1
 ·rcases List.mem_append.1 hx with hx | hx
  ·obtain ⟨j,u',hj,r⟩:=h.src x hx;exact ⟨j,u',by omega,r⟩
  ·exact ⟨k,u,by omega,hu,ho,hx⟩
theorem WsI.puts_len {c L acc:List (List Int)} {k:Nat} (h:WsI c L k acc):(zA5 acc).length=acc.length:=(zIA h.nd h.len).length_eq
theorem zES (c:List (List Int)) (v:List Int):(dbR c v).Nodup:=zGC zD9.2.2
theorem zGa (c:List (List Int)) (v:List Int):∀x∈dbR c v,dom x=true:=fun x hx=>(zD9.2.1 x hx).2
theorem zHe {c L:List (List Int)} (hL:L.Nodup) (hd:∀x∈L,dom x=true):∀(m k:Nat) {acc s:List (List Int)},m=L.length-k→k≤L.length→WsI c L k acc→acc.length≤200→zCW c (L.drop k) acc=some s→WsI c L L.length s∧s.length≤200
 | 0,k,acc,s,hm,hk,h,hl,e=>by
  have:k=L.length:=by omega
  subst this;rw [List.drop_length] at e;simp only [zCW,Option.some.injEq] at e;subst e;exact ⟨h,hl⟩
 | m+1,k,acc,s,hm,hk,h,hl,e=>by
  have hlt:k<L.length:=by omega
  have hu:L[k]? = some L[k]:=zWG hlt;rw [zAC hu,zDt] at e;by_cases hc:obOk c L[k]=true∧acc.length+(obR c L[k]).length≤200
  ·rw [if_pos hc] at e;exact zHe hL hd m (k+1) (by omega) (by omega) (h.step hL hd hu hc.1) (by simp; omega) e
  ·rw [if_neg hc] at e; cases e
theorem zQI {A B:Nat}:∀{L:List (List Int)},L.length≤A→(∀x∈L,x.length≤B)→total L≤A*(B+1):=by
 intro L hA hB;have h1:(L.map List.length).sum≤L.length*B:=by
  clear hA
  induction L with
  | nil=>simp
  | cons x L ih =>
   have:=ih (fun y hy=>hB y (List.mem_cons_of_mem _ hy));have:=hB x (List.mem_cons_self ..);simp only [List.map_cons,List.sum_cons,List.length_cons,Nat.add_mul,Nat.one_mul];omega
 have h2:L.length*B≤A*B:=Nat.mul_le_mul_right _ hA;unfold total;rw [Nat.mul_add,Nat.mul_one];omega
theorem zJk (c:List (List Int)) (l:List Int):total (wsR c l)≤1000:=by
 unfold wsR;split
 ·rename_i hok
  cases hs:wsQ c l with
  | none=>decide
  | some s =>
   have hd:dbC c l=true:=by unfold dbOk at hok; rw [Bool.and_eq_true] at hok; exact hok.1
   have hf:finB c=true:=by unfold dbC at hd; rw [Bool.and_eq_true,Bool.and_eq_true] at hd; exact hd.2.1
   have h4:=(zCB hf).cart.le;obtain ⟨h1,h2⟩:=zHe (zES c l) (zGa c l) _ 0 rfl (Nat.zero_le _) (WsI.start c _) (by simp) (by rw [List.drop_zero]; exact hs);have hp:=h1.puts_len;rw [Option.getD_some];have hm:=(zIA h1.nd h1.len);refine Nat.le_trans (zQI (A:=200) (B:=4) (by omega) (fun x hx=>?_)) (by omega);rw [h1.len x (hm.mem_iff.1 hx)]; exact h4
 ·decide
end Go.Proofs.YtphbichgpcicnaaGreatDoor
namespace Go.Proofs.YtphbichgpcicnaaGreatDoor
set_option maxRecDepth 20000
theorem zN1 {α:Type} {L:List α} {m:Nat} {x:α} (hx:L[m]? = some x):L.Perm (x::L.eraseIdx m):=by
 rw [List.eraseIdx_eq_take_drop_succ];have e:L=L.take m++x::L.drop (m+1):=by rw [<-zAC hx,List.take_append_drop]
 exact (List.Perm.of_eq e).trans List.perm_middle
theorem zJQ {α:Type} (h:α→Int):∀(n:Nat) {L:List α},L.length=n→(selN h n L).Perm L
 | 0,L,hn=>by
  obtain rfl:=List.eq_nil_of_length_eq_zero hn;exact List.Perm.refl _
 | n+1,L,hn=>by
  have hm:=zGg (zBl h L) (L.length-1);unfold selN;generalize minK (zBl h L) (L.length-1)=m at *;have hml:m<L.length:=by omega
  obtain ⟨x,hx⟩:∃x,L[m]? = some x:=⟨_,zWG hml⟩;rw [hx];exact ((zJQ h n (by rw [List.length_eraseIdx]; split <;> omega)).cons x).trans (zN1 hx).symm
theorem zPo {α:Type} (h:α→Int) {L:List α} {n:Nat} (hn:L.length=n+1):∃x,L[minK (zBl h L) n]? = some x∧selN h (n+1) L=x::selN h n (L.eraseIdx (minK (zBl h L) n)):=by
 have hm:=zGg (zBl h L) n;obtain ⟨x,hx⟩:∃x,L[minK (zBl h L) n]? = some x:=⟨_,zWG (by omega)⟩;refine ⟨x,hx,?_⟩;have e:L.length-1=n:=by omega
 conv=>lhs; unfold selN
 rw [e,hx]
section
variable {c:List (List Int)} {v u:List Int} {K:List Wtd}
theorem zF9 (c:List (List Int)) (v:List Int):(mltL c v).Perm (dbR c v):=zJQ _ _ rfl
theorem zKm (c:List (List Int)) (v:List Int):(mltL c v).length=(dbR c v).length:=(zF9 c v).length_eq
theorem zKn:u∈mltL c v↔u∈dbR c v:=(zF9 c v).mem_iff
theorem zH1 (c:List (List Int)) (v:List Int):(mltL c v).Nodup:=(zF9 c v).nodup_iff.2 (zES c v)
theorem zKl (c:List (List Int)) (v:List Int) (k:Nat):∀e∈mltK c v k,e.1∈dbR c v:=fun e he=>by
 have h1:e.1∈(mltK c v k).map Prod.fst:=List.mem_map.2 ⟨e,he,rfl⟩;rw [zC3] at h1;exact zKn.1 (List.mem_of_mem_take h1)
theorem zRk {k:Nat} (h:(mltL c v)[k]? = some u):∀e∈mltK c v k,e.1≠u:=fun e he hu=>by
 have h1:e.1∈(mltK c v k).map Prod.fst:=List.mem_map.2 ⟨e,he,rfl⟩;rw [zC3,hu] at h1;obtain ⟨j,hj⟩:=List.getElem?_of_mem h1;rw [List.getElem?_take] at hj;split at hj
 ·rename_i hjk
  obtain ⟨l1,e1⟩:=zWI hj;obtain ⟨l2,e2⟩:=zWI h;have:=List.pairwise_iff_getElem.1 (zH1 c v) j k l1 l2 hjk;rw [e1,e2] at this;exact this rfl
 ·cases hj
theorem zNt (c:List (List Int)) (v:List Int) (h4:c.length≤4) (k:Nat):zB2 (mltK c v k)≤1000:=by
 have h0:(mltK c v k).length≤200:=by
  have:=congrArg List.length (zC3 c v k);rw [List.length_map,List.length_take] at this;have h1:=(zD9 (c:=c) (v:=v)).1;have h2:=zKm c v;omega
 have h1:∀K:List Wtd,(∀e∈K,e.1.length≤4)→(K.map fun x=>x.1.length).sum≤4*K.length:=fun K=>by
  induction K with
  | nil=>intro _; simp
  | cons e K ih =>
   intro h;have a:=ih fun x hx=>h x (List.mem_cons_of_mem _ hx);have b:=h e (List.mem_cons_self ..);simp only [List.map_cons,List.sum_cons,List.length_cons];omega
 have h2:=h1 (mltK c v k) fun e he=>by
  have:=((zD9 (c:=c) (v:=v)).2.1 e.1 (zKl c v k e he)).1;omega
 unfold zB2;omega
theorem zL8 {W:List (List Int)}:∀{f k:Nat} {q s:List (List Int)},zA9 W f k q=some s→∀x∈q,x∈s
 | 0,k,q,s,e,x,hx=>by
  unfold zA9 at e;split at e
  ·cases e; exact hx
  ·cases e
 | f+1,k,q,s,e,x,hx=>by
  unfold zA9 at e;cases hk:q[k]? with
  | none=>rw [hk] at e; cases e; exact hx
  | some u =>
   rw [hk] at e;simp only at e;split at e
   ·cases e
   ·refine zL8 e x ?_;have:∀(W q:List (List Int)),x∈q→x∈W.foldl (zBT u) q:=fun W=>by
     induction W with
     | nil=>exact fun q h=>h
     | cons r W ih =>
      intro q h;rw [List.foldl_cons];refine ih _ ?_;unfold zBT;split
      ·exact List.mem_append_left _ h
      ·exact h
    exact this W q hx
theorem zM8 (h:dbOk c v=true):v∈dbR c v:=by
 unfold dbOk at h;rw [Bool.and_eq_true] at h;obtain ⟨s,hs⟩:=Option.isSome_iff_exists.1 h.2;unfold dbR;rw [if_pos h.1,hs,Option.getD_some];obtain ⟨h1,_⟩:=zGY h.1 hs;exact ((zB9 (n:=c.length) (q:=s) h1.len).2 v).2 (zL8 hs v (List.mem_singleton.2 rfl))
theorem zUp (h:Frd c v K) (hu:v∈dbR c v):htV c v v=0:=by
 obtain ⟨_,m,e,_,e2,_⟩:=zDL h hu;rw [e2];have hl:=h.v4.2;have hz:∀k,k<c.length→zAY c (dfL v v) k=0:=fun k hk=>zFA h.fin.cart (by simp [dfL,hl]) (fun i hi=>by rw [zD0 hl hl hi]; omega) hk;have hq:dep c v v=(List.range c.length).map fun _=>(0:Int):=by
  refine List.ext_getElem? fun k=>?_;unfold dep quos;rw [List.getElem?_map,List.getElem?_map];by_cases hk:k<c.length
  ·rw [zDK c (dfL v v) c.length k hk,List.getElem?_range hk,Option.map_some,Option.map_some,hz k hk,Int.zero_tdiv]
  ·rw [List.getElem?_eq_none (by rw [zBW]; omega),List.getElem?_eq_none (by simp; omega)];rfl
 rw [hq] at e;have hm:∀k,k<c.length→m k=0:=fun k hk=>by
  have:=congrArg (fun l=>l[k]?) e;simp only [List.getElem?_map,List.getElem?_range hk,Option.map_some,Option.some.injEq] at this;omega
 have:∀n,n≤c.length→sumN m n=0:=fun n=>by
  induction n with
  | zero=>intro _; rfl
  | succ n ih=>intro hn; simp only [sumN]; rw [ih (by omega),hm n (by omega)]
 rw [this _ (zWK _)]; rfl
theorem zQG (h:Frd c v K) (hok:dbOk c v=true):(mltL c v)[0]? = some v:=by
 have hv:=zM8 hok;have hN:0<(dbR c v).length:=List.length_pos_of_mem hv;obtain ⟨n,hn⟩:∃n,(dbR c v).length=n+1:=⟨(dbR c v).length-1,by omega⟩;obtain ⟨x,hx,e⟩:=zPo (htV c v) hn;unfold mltL;rw [hn,e];obtain ⟨j,hj⟩:=List.getElem?_of_mem hv;have hjl:=(zWI hj).1;have h1:=zEJ (zBl (htV c v) (dbR c v)) n j (by omega);rw [zFJ hx,zFJ hj,zUp h hv] at h1;obtain ⟨_,m,_,_,e2,e3⟩:=zDL h (zWH hx);rw [e2] at h1;have:x=v:=e3 (by omega);rw [this]; rfl
end
def mlOk (c:List (List Int)) (v:List Int):Bool:=dbOk c v && decide (szC c≤200)
def mlR (c:List (List Int)) (v:List Int):List Wtd:=if mlOk c v=true then mltK c v (dbR c v).length else []
theorem zPG (c:List (List Int)) (v:List Int):zB2 (mlR c v)≤1000:=by
 unfold mlR;split
 ·rename_i h
  unfold mlOk dbOk dbC at h;simp only [Bool.and_eq_true] at h;have:c.length≤4:=(zCZ h.1.1.2.1).cart.le;exact zNt c v this _
 ·decide
theorem zKQ {c:List (List Int)} {v:List Int} (h:dbOk c v=true) (k:Nat):Frd c v (mltK c v k):=by
 unfold dbOk at h;rw [Bool.and_eq_true] at h;have h1:=h.1;unfold dbC at h1;simp only [Bool.and_eq_true] at h1;exact ⟨zCZ h1.2.1,h.1,zKl c v k⟩
theorem zTg {c:List (List Int)} {v:List Int} (h:dbOk c v=true):Frd c v []:=zKQ h 0
end Go.Proofs.YtphbichgpcicnaaGreatDoor
