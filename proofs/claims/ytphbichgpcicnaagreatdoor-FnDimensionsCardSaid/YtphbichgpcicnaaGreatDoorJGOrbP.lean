/- Two dominant weights of an orbit are equal. Plain: functions of numbers. No condition. -/
import Derived.Test.YtphbichgpcicnaaGreatDoorJGFin
namespace Go.Proofs.YtphbichgpcicnaaGreatDoor.Cox
section
variable {n:Nat} {c:Nat→Nat→Int}
theorem dot_nonneg:∀{n:Nat} {f g:Nat→Int},(∀k,k<n→0≤f k)→(∀k,k<n→0≤g k)→0≤dotN f g n
 | 0,_,_,_,_=>Int.le_refl _
 | n+1,f,g,hf,hg=>by
  have h1:=dot_nonneg (n:=n) (f:=f) (g:=g) (fun k hk=>hf k (by omega)) (fun k hk=>hg k (by omega));have h2:=Int.mul_nonneg (hf n (by omega)) (hg n (by omega));simp only [dotN];omega
theorem zTa (h:Car n c) {a b:List Nat} (ha:Lets n a) (hb:Lets n b) (e:Eqv n c a b) (m:Nat→Int):aW c a.reverse m=aW c b.reverse m:=by
 have b1:=zL4 h m hb;have b2:=zEl h (aW c b.reverse m) ha;rw [e.m,b1] at b2;exact b2
theorem sW_self (h:Car n c) {i:Nat} (hi:i<n) (m:Nat→Int):sW c i m i = -(m i):=by
 simp only [sW,h.diag i hi]; omega
theorem dom_uni (h:Car n c):∀(N:Nat) (w:List Nat),w.length≤N→Lets n w→∀{m:Nat→Int},(∀k,k<n→0≤m k)→(∀k,k<n→0≤aW c w m k)→∀k,k<n→aW c w m k=m k
 | _,[],_,_,_,_,_=>fun _ _=>rfl
 | 0,i::w,hl,_,_,_,_=>by simp at hl
 | N+1,i::w,hl,hw,m,hm,hd=>by
  have hi:i<n:=hw i (List.mem_cons_self ..);have hw':Lets n w:=fun j hj=>hw j (List.mem_cons_of_mem _ hj);have hl':w.length≤N:=by simp at hl; omega
  have hr:=zAj hw';rcases coh h hr hi with hp | hn
  ·have h1:0≤aW c w m i:=by rw [zFO h hw' hi]; exact dot_nonneg hp.2 hm
   have h2:0≤sW c i (aW c w m) i:=hd i hi;rw [sW_self h hi] at h2;have h0:aW c w m i=0:=by omega
   have e:∀k,aW c (i::w) m k=aW c w m k:=fun k=>by
    show aW c w m k-aW c w m i*c k i=aW c w m k;rw [h0,Int.zero_mul]; omega
   exact fun k hk=>(e k).trans (dom_uni h N w hl' hw' hm (fun k hk=>by rw [<-e k]; exact hd k hk) k hk)
  ·obtain ⟨w',a1,a2,a3⟩:=zCi h hi hr (fun y _ hy=>coh h hy hi) hn;have hl2:Lets n (w.reverse++[i]):=fun j hj=>by
    rcases List.mem_append.1 hj with h | h
    ·exact hr j h
    ·simp at h; omega
   have e:∀m,aW c (i::w) m=aW c w'.reverse m:=fun m=>by
    have:=zTa h hl2 a1 a3 m;simpa using this
   rw [e m];exact dom_uni h N w'.reverse (by simp at a2 ⊢; omega) (zAj a1) hm (fun k hk=>by rw [<-e m]; exact hd k hk)
end
end Go.Proofs.YtphbichgpcicnaaGreatDoor.Cox
namespace Go.Proofs.YtphbichgpcicnaaGreatDoor
open Go.RowKit
set_option maxRecDepth 20000
theorem zCb {α:Type} (a:α):[a].Nodup:=by simp
def actN (c:List (List Int)):List Nat→List Int→List Int
 | [],v=>v
 | i::w,v=>refl c i (actN c w v)
theorem zJ3 (c:List (List Int)) (v:List Int) (w':List Nat):∀w,actN c (w++w') v=actN c w (actN c w' v)
 | []=>rfl
 | i::w=>by simp only [List.cons_append,actN,zJ3 c v w' w]
section
variable {c T:List (List Int)}
theorem zGW (hT:Cor c T) (hc:CartanP c) {v:List Int} (h:Wt c T v):∀{w:List Nat},Cox.Lets c.length w→Wt c T (actN c w v)∧∀k,k<c.length→num (actN c w v) k=Cox.aW (ent c) w (num v) k
 | [],_=>⟨h,fun _ _=>rfl⟩
 | i::w,hw=>by
  have hi:i<c.length:=hw i (List.mem_cons_self ..);obtain ⟨h1,h2⟩:=zGW hT hc h (w:=w) (fun j hj=>hw j (List.mem_cons_of_mem _ hj));refine ⟨h1.step hT hc hi,fun k hk=>?_⟩;show num (refl c i (actN c w v)) k=Cox.sW (ent c) i (Cox.aW (ent c) w (num v)) k;rw [h1.exact hT hc hi hk];simp only [Cox.sW,h2 i hi,h2 k hk]
theorem zQV (hT:Cor c T) (hc:CartanP c) {v:List Int} (h:Wt c T v) {i:Nat} (hi:i<c.length):refl c i (refl c i v)=v:=by
 have h2:=h.step hT hc hi;refine zBz (n:=c.length) (by rw [zA2,zA2,h.len]) h.len fun k hk=>?_;rw [h2.exact hT hc hi hk];have e:∀j,j<c.length→num (refl c i v) j=Cox.sW (ent c) i (num v) j:=fun j hj=>h.exact hT hc hi hj;have:=congrFun (Cox.sW_two hc.car hi (num v)) k;rw [<-this];simp only [Cox.sW,e i hi,e k hk]
def Rch (c:List (List Int)) (v x:List Int):Prop:=∃w,Cox.Lets c.length w∧x=actN c w v
theorem Rch.refl (c:List (List Int)) (v:List Int):Rch c v v:=⟨[],fun _ h=>by simp at h,rfl⟩
theorem Rch.step {v x:List Int} (h:Rch c v x) {i:Nat} (hi:i<c.length):Rch c v (Proofs.YtphbichgpcicnaaGreatDoor.refl c i x):=by
 obtain ⟨w,hw,rfl⟩:=h;exact ⟨i::w,fun j hj=>by
  rcases List.mem_cons.1 hj with rfl | hj
  ·exact hi
  ·exact hw j hj,rfl⟩
theorem Rch.wt (hT:Cor c T) (hc:CartanP c) {v x:List Int} (h:Wt c T v) (hx:Rch c v x):Wt c T x:=by
 obtain ⟨w,hw,rfl⟩:=hx;exact (zGW hT hc h hw).1
theorem Rch.trans {v x y:List Int} (h:Rch c v x) (k:Rch c x y):Rch c v y:=by
 obtain ⟨w,hw,rfl⟩:=h;obtain ⟨w',hw',rfl⟩:=k;exact ⟨w'++w,Cox.lets_app hw' hw,(zJ3 c v w w').symm⟩
theorem zLB (hT:Cor c T) (hc:CartanP c) {v:List Int} (h:Wt c T v):∀{w:List Nat},Cox.Lets c.length w→Rch c (actN c w v) v
 | [],_=>Rch.refl c v
 | i::w,hw=>by
  have hi:i<c.length:=hw i (List.mem_cons_self ..);have hw':Cox.Lets c.length w:=fun j hj=>hw j (List.mem_cons_of_mem _ hj);have h1:=(zGW hT hc h hw').1;have h2:Rch c (Proofs.YtphbichgpcicnaaGreatDoor.refl c i (actN c w v)) (actN c w v):=by
   have:=(Rch.refl c (Proofs.YtphbichgpcicnaaGreatDoor.refl c i (actN c w v))).step hi;rwa [zQV hT hc h1 hi] at this
  exact h2.trans (zLB hT hc h hw')
theorem Rch.symm (hT:Cor c T) (hc:CartanP c) {v x:List Int} (h:Wt c T v) (hx:Rch c v x):Rch c x v:=by
 obtain ⟨w,hw,rfl⟩:=hx;exact zLB hT hc h hw
theorem zML {v:List Int} (h:zAH v=none) (k:Nat):0≤num v k:=by
 unfold num;cases e:v[k]? with
 | none=>simp
 | some x=>exact zDD.1 h x (zWH e)
theorem zMM (hT:Cor c T) (hc:CartanP c) {v x:List Int} (h:Wt c T v) (hx:Rch c v x) (hd:zAH v=none) (hd':zAH x=none):x=v:=by
 obtain ⟨w,hw,rfl⟩:=hx;obtain ⟨h1,h2⟩:=zGW hT hc h hw;refine zBz (n:=c.length) h1.len h.len fun k hk=>?_;rw [h2 k hk];exact Cox.dom_uni hc.car _ w (zWK _) hw (fun k _=>zML hd k) (fun k hk=>by rw [<-h2 k hk]; exact zML hd' k) k hk
theorem zSc (hT:Cor c T) (hc:CartanP c):∀(m:Nat) {v:List Int},DomS c T v m→zAH (dmL c v)=none∧Rch c v (dmL c v)
 | m,v,h=>by
  cases e:zAH v with
  | none=>rw [zKL e]; exact ⟨e,Rch.refl c v⟩
  | some i =>
   obtain ⟨m',rfl,h3⟩:=h.back hT hc e;have hi:i<c.length:=by have:=zCJ e; rw [h.1.len] at this; exact this
   rw [zTV (zEB hT hc) h e];obtain ⟨h4,h5⟩:=zSc hT hc m' h3;exact ⟨h4,((Rch.refl c v).step hi).trans h5⟩
theorem zOp (hT:Cor c T) (hc:CartanP c) {v:List Int} (h:Wt c T v):zAH (dmL c v)=none∧Rch c v (dmL c v):=zSc hT hc _ ⟨h,rfl⟩
end
section
variable {c T:List (List Int)}
def zBf (c:List (List Int)) (u:List Int) (out:List (List Int)) (i:Nat):List (List Int):=if refl c i u∈out then out else out++[refl c i u]
def oRow (c:List (List Int)) (u:List Int) (out:List (List Int)):List (List Int):=(List.range c.length).foldl (zBf c u) out
def oBfs (c:List (List Int)):Nat→Nat→List (List Int)→Option (List (List Int))
 | 0,k,out=>if out.length≤k then some out else none
 |f+1,k,out=>match out[k]? with
  | none=>some out
  | some u=>if (oRow c u out).length > 200 then none else oBfs c f (k+1) (oRow c u out)
structure OOk (c:List (List Int)) (v:List Int) (k:Nat) (out:List (List Int)):Prop where
 nd:out.Nodup
 rch:∀x∈out,Rch c v x
 self:v∈out
 done:∀(j:Nat) (u:List Int),j<k→out[j]? = some u→∀i,i<c.length→refl c i u∈out
theorem zPP (c:List (List Int)) (u:List Int) (out:List (List Int)) (i:Nat):∃l,zBf c u out i=out++l∧l.length≤1:=by
 unfold zBf;split
 ·exact ⟨[],by simp,by simp⟩
 ·exact ⟨_,rfl,by simp⟩
theorem zJH (c:List (List Int)) (u:List Int):∀(L:List Nat) (out:List (List Int)),∃l,L.foldl (zBf c u) out=out++l∧l.length≤L.length
 | [],out=>⟨[],by simp,by simp⟩
 | i::L,out=>by
  obtain ⟨l1,h1,k1⟩:=zPP c u out i;obtain ⟨l2,h2,k2⟩:=zJH c u L (zBf c u out i);exact ⟨l1++l2,by rw [List.foldl_cons,h2,h1,List.append_assoc],by simp; omega⟩
theorem zRu (c:List (List Int)) (u:List Int) (out:List (List Int)):∃l,oRow c u out=out++l∧l.length≤c.length:=by
 obtain ⟨l,h,k⟩:=zJH c u (List.range c.length) out;exact ⟨l,h,by simpa using k⟩
theorem zPD {u x:List Int} {out:List (List Int)} {i:Nat}:x∈zBf c u out i↔x∈out∨x=refl c i u:=by
 unfold zBf;split
 ·rename_i h
  exact ⟨.inl,fun h'=>by rcases h' with h' | rfl; exact h'; exact h⟩
 ·simp
theorem zDU {u x:List Int}:∀{L:List Nat} {out:List (List Int)},x∈L.foldl (zBf c u) out↔x∈out∨∃i∈L,x=refl c i u
 | [],out=>by simp
 | j::L,out=>by
  rw [List.foldl_cons,zDU,zPD];constructor
  ·rintro ((h | h) | ⟨i,hi,h⟩)
   ·exact .inl h
   ·exact .inr ⟨j,List.mem_cons_self ..,h⟩
   ·exact .inr ⟨i,List.mem_cons_of_mem _ hi,h⟩
  ·rintro (h | ⟨i,hi,h⟩)
   ·exact .inl (.inl h)
   ·rcases List.mem_cons.1 hi with rfl | hi
    ·exact .inl (.inr h)
    ·exact .inr ⟨i,hi,h⟩
theorem zRp {u:List Int} {out:List (List Int)} {i:Nat} (h:out.Nodup):(zBf c u out i).Nodup:=by
 unfold zBf;split
 ·exact h
 ·rename_i hn
  rw [List.nodup_append];exact ⟨h,zCb _,fun a ha b hb=>by rw [List.mem_singleton] at hb; subst hb; exact fun e=>hn (e ▸ ha)⟩
theorem zKq {u:List Int}:∀{L:List Nat} {out:List (List Int)},out.Nodup→(L.foldl (zBf c u) out).Nodup
 | [],_,h=>h
 | _::L,_,h=>zKq (L:=L) (zRp h)
theorem OOk.row {v:List Int} {k:Nat} {out:List (List Int)} {u:List Int} (h:OOk c v k out) (hu:out[k]? = some u):OOk c v (k+1) (oRow c u out):=by
 obtain ⟨l,hl,_⟩:=zRu c u out;have hkl:k<out.length:=(zWI hu).1;refine ⟨zKq h.nd,fun x hx=>?_,zDU.2 (.inl h.self),fun j y hj hy i hi=>?_⟩
 ·rcases zDU.1 hx with hx | ⟨i,hi,rfl⟩
  ·exact h.rch x hx
  ·exact (h.rch u (zWH hu)).step (List.mem_range.1 hi)
 ·rw [hl,List.getElem?_append_left (by omega)] at hy;rcases Nat.lt_or_ge j k with hjk | hjk
  ·exact zDU.2 (.inl (h.done j y hjk hy i hi))
  ·have:j=k:=by omega
   subst this;rw [hu] at hy;cases hy;exact zDU.2 (.inr ⟨i,List.mem_range.2 hi,rfl⟩)
theorem zMg {v:List Int}:∀(f k:Nat) (out:List (List Int)),OOk c v k out→out.length≤200→201≤f+k →
  (∃r,oBfs c f k out=some r∧r.Nodup∧r.length≤200∧(∀x∈r,Rch c v x)∧v∈r∧∀x∈r,∀i,i<c.length→refl c i x∈r) ∨
  (oBfs c f k out=none∧∃r:List (List Int),r.Nodup∧200<r.length∧∀x∈r,Rch c v x)
 | 0,k,out,h,hl,hf=>by
  refine .inl ⟨out,by unfold oBfs; rw [if_pos (by omega)],h.nd,hl,h.rch,h.self,fun x hx i hi=>?_⟩;obtain ⟨j,hj⟩:=List.getElem?_of_mem hx;exact h.done j x (by have:=(zWI hj).1; omega) hj i hi
 | f+1,k,out,h,hl,hf=>by
  unfold oBfs;cases e:out[k]? with
  | none =>
   refine .inl ⟨out,rfl,h.nd,hl,h.rch,h.self,fun x hx i hi=>?_⟩;obtain ⟨j,hj⟩:=List.getElem?_of_mem hx;have h1:=List.getElem?_eq_none_iff.1 e;exact h.done j x (by have:=(zWI hj).1; omega) hj i hi
  | some u =>
   have h1:=h.row e;by_cases hb:(oRow c u out).length > 200
   ·simp only [if_pos hb];exact .inr ⟨by first | rfl | trivial,_,h1.nd,hb,h1.rch⟩
   ·simp only [if_neg hb];exact zMg f (k+1) _ h1 (by omega) (by omega)
def zGn (c:List (List Int)) (u:List Int) (q:Option (List (List Int))) (i:Nat):Option (List (List Int)):=match q with
 | none=>none
 | some q=>if 0<num u i∧refl c i u∉q then if 200≤q.length then none else some (q++[refl c i u]) else some q
def qRow (c:List (List Int)) (u:List Int) (q:List (List Int)):Option (List (List Int)):=(List.range c.length).foldl (zGn c u) (some q)
def qBfs (c:List (List Int)):Nat→Nat→List (List Int)→Option (List (List Int))
 | 0,k,q=>if q.length≤k then some q else none
 |f+1,k,q=>match q[k]? with
  | none=>some q
  |some u=>match qRow c u q with
   | none=>none
   | some q'=>qBfs c f (k+1) q'
structure QOk (c:List (List Int)) (d:List Int) (k:Nat) (q:List (List Int)):Prop where
 nd:q.Nodup
 len:q.length≤200
 kle:k≤q.length
 rch:∀x∈q,Rch c d x
 self:d∈q
 done:∀(j:Nat) (u:List Int),j<k→q[j]? = some u→∀i,i<c.length→0<num u i→refl c i u∈q
theorem zMk {d u:List Int}:∀(m:Nat) {q:List (List Int)} {k:Nat},m≤c.length→QOk c d k q→u∈q →
  (∃q' l,(List.range m).foldl (zGn c u) (some q)=some q'∧q'=q++l∧QOk c d k q'∧∀i,i<m→0<num u i→refl c i u∈q') ∨
  ((List.range m).foldl (zGn c u) (some q)=none∧∃r:List (List Int),r.Nodup∧200<r.length∧∀x∈r,Rch c d x)
 | 0,q,k,_,h,_=>.inl ⟨q,[],rfl,by simp,h,fun i hi=>by omega⟩
 | m+1,q,k,hm,h,hu=>by
  rw [List.range_succ,List.foldl_append];rcases zMk m (by omega) h hu with ⟨q',l,e,el,h1,h2⟩ | ⟨e,hr⟩
  ·rw [e];show (∃q'' l,zGn c u (some q') m=some q''∧_)∨(zGn c u (some q') m=none∧_);simp only [zGn];by_cases hc:0<num u m∧refl c m u∉q'
   ·rw [if_pos hc];have hru:Rch c d (refl c m u):=(h.rch u hu).step (by omega);have hnd:(q'++[refl c m u]).Nodup:=by
     rw [List.nodup_append];exact ⟨h1.nd,zCb _,fun a ha b hb=>by rw [List.mem_singleton] at hb; subst hb; exact fun e=>hc.2 (e ▸ ha)⟩
    have hrc:∀x∈q'++[refl c m u],Rch c d x:=fun x hx=>by
     rcases List.mem_append.1 hx with hx | hx
     ·exact h1.rch x hx
     ·rw [List.mem_singleton] at hx; subst hx; exact hru
    by_cases hl:200≤q'.length
    ·rw [if_pos hl];exact .inr ⟨rfl,_,hnd,by simp; omega,hrc⟩
    ·rw [if_neg hl];refine .inl ⟨_,l++[refl c m u],rfl,by rw [el,List.append_assoc],⟨hnd,by simp; omega,by have:=h1.kle; simp; omega,hrc,List.mem_append_left _ h1.self,fun j y hj hy i hi hp=>?_⟩,fun i hi hp=>?_⟩
     ·by_cases hjl:j<q'.length
      ·rw [List.getElem?_append_left hjl] at hy;exact List.mem_append_left _ (h1.done j y hj hy i hi hp)
      ·have hk:q'.length<k:=by omega
       have:=h1.kle;omega
     ·rcases Nat.lt_or_ge i m with h' | h'
      ·exact List.mem_append_left _ (h2 i h' hp)
      ·have:i=m:=by omega
       subst this;exact List.mem_append_right _ (List.mem_singleton.2 rfl)
   ·rw [if_neg hc];refine .inl ⟨q',l,rfl,el,h1,fun i hi hp=>?_⟩;rcases Nat.lt_or_ge i m with h' | h'
    ·exact h2 i h' hp
    ·have:i=m:=by omega
     subst this;by_cases hin:refl c i u∈q'
     ·exact hin
     ·exact absurd ⟨hp,hin⟩ hc
  ·rw [e];exact .inr ⟨rfl,hr⟩
theorem zEy {d:List Int}:∀(f k:Nat) (q:List (List Int)),QOk c d k q→201≤f+k →
  (∃r,qBfs c f k q=some r∧r.Nodup∧r.length≤200∧(∀x∈r,Rch c d x)∧d∈r∧∀x∈r,∀i,i<c.length→0<num x i→refl c i x∈r) ∨
  (qBfs c f k q=none∧∃r:List (List Int),r.Nodup∧200<r.length∧∀x∈r,Rch c d x)
 | 0,k,q,h,hf=>by
  have h1:=h.len;have h2:=h.kle;omega
 | f+1,k,q,h,hf=>by
  unfold qBfs;cases e:q[k]? with
  | none =>
   refine .inl ⟨q,rfl,h.nd,h.len,h.rch,h.self,fun x hx i hi hp=>?_⟩;obtain ⟨j,hj⟩:=List.getElem?_of_mem hx;have h1:=List.getElem?_eq_none_iff.1 e;exact h.done j x (by have:=(zWI hj).1; omega) hj i hi hp
  | some u =>
   have hkl:k<q.length:=(zWI e).1;rcases zMk (u:=u) c.length (zWK _) h (zWH e) with ⟨q',l,e1,el,h1,h2⟩ | ⟨e1,hr⟩
   ·have e2:qRow c u q=some q':=e1;simp only [e2];refine zEy f (k+1) q' ⟨h1.nd,h1.len,by rw [el]; simp; omega,h1.rch,h1.self,fun j y hj hy i hi hp=>?_⟩ (by omega);rcases Nat.lt_or_ge j k with hjk | hjk
    ·exact h1.done j y hjk hy i hi hp
    ·have:j=k:=by omega
     subst this;rw [el,List.getElem?_append_left hkl,e] at hy;cases hy;exact h2 i hi hp
   ·have e2:qRow c u q=none:=e1;simp only [e2];exact .inr ⟨by first | rfl | trivial,hr⟩
theorem zN2 (hT:Cor c T) (hc:CartanP c) {d:List Int} (hd:Wt c T d) (h0:zAH d=none) {r:List (List Int)} (hr:d∈r) (hcl:∀x∈r,∀i,i<c.length→0<num x i→refl c i x∈r) :
  ∀(m:Nat) {x:List Int},DomS c T x m→Rch c d x→x∈r
 | m,x,h,hx=>by
  cases e:zAH x with
  | none=>rw [zMM hT hc hd hx h0 e]; exact hr
  | some i =>
   obtain ⟨m',rfl,h3⟩:=h.back hT hc e;have hi:i<c.length:=by have:=zCJ e; rw [h.1.len] at this; exact this
   have h4:=zN2 hT hc hd h0 hr hcl m' h3 (hx.step hi);have hn:=zGD e;have h5:num (refl c i x) i = -(num x i):=by
    rw [h.1.exact hT hc hi hi];exact Cox.sW_self hc.car hi _
   have:=hcl _ h4 i hi (by omega);rwa [zQV hT hc h.1 hi] at this
theorem zDF {α:Type} [DecidableEq α]:∀{l m:List α},l.Nodup→(∀x∈l,x∈m)→l.length≤m.length
 | [],m,_,_=>Nat.zero_le _
 | a::l,m,h,hs=>by
  have h1:=List.nodup_cons.1 h;have ha:=hs a (List.mem_cons_self ..);have h2:=zDF (m:=m.erase a) h1.2 (fun x hx=>(List.mem_erase_of_ne (fun (e:x=a)=>h1.1 (by rw [<-e]; exact hx))).2 (hs x (List.mem_cons_of_mem _ hx)));rw [List.length_erase_of_mem ha] at h2;have:=List.length_pos_of_mem ha;simp only [List.length_cons];omega
theorem zKv (hT:Cor c T) (hc:CartanP c) {v:List Int} (hv:Wt c T v) :
  (∃r s,oBfs c 201 0 [v]=some r∧qBfs c 201 0 [dmL c v]=some s∧r.Nodup∧s.Nodup∧r.length≤200∧s.length≤200∧(∀x,x∈r↔x∈s)∧∀x∈r,Wt c T x) ∨
  (oBfs c 201 0 [v]=none∧qBfs c 201 0 [dmL c v]=none):=by
 obtain ⟨d1,d2⟩:=zOp hT hc hv;have hd:=d2.wt hT hc hv;have hb:=Rch.symm hT hc hv d2;have o1:OOk c v 0 [v]:=⟨zCb _,fun x hx=>by rw [List.mem_singleton] at hx; subst hx; exact Rch.refl c x,List.mem_singleton.2 rfl,fun j u hj=>by omega⟩;have q1:QOk c (dmL c v) 0 [dmL c v]:=⟨zCb _,by simp,Nat.zero_le _,fun x hx=>by rw [List.mem_singleton] at hx; subst hx; exact Rch.refl c _,List.mem_singleton.2 rfl,fun j u hj=>by omega⟩
 -- a closed list holds all images of v
 have all1:∀{r:List (List Int)},v∈r→(∀x∈r,∀i,i<c.length→refl c i x∈r)→∀{w:List Nat},Cox.Lets c.length w→actN c w v∈r:=fun {r} h1 h2 {w}=>by
  induction w with
  | nil=>exact fun _=>h1
  | cons i w ih=>exact fun hw=>h2 _ (ih (fun j hj=>hw j (List.mem_cons_of_mem _ hj))) i (hw i (List.mem_cons_self ..))
 rcases zMg 201 0 [v] o1 (by simp) (by omega) with ⟨r,e,a1,a2,a3,a4,a5⟩ | ⟨e,r,a1,a2,a3⟩
 ·rcases zEy 201 0 _ q1 (by omega) with ⟨s,e',b1,b2,b3,b4,b5⟩ | ⟨e',s,b1,b2,b3⟩
  ·refine .inl ⟨r,s,e,e',a1,b1,a2,b2,fun x=>⟨fun hx=>?_,fun hx=>?_⟩,fun x hx=>(a3 x hx).wt hT hc hv⟩
   ·have hxr:=hb.trans (a3 x hx);exact zN2 hT hc hd d1 b4 b5 _ ⟨hxr.wt hT hc hd,rfl⟩ hxr
   ·obtain ⟨w,hw,rfl⟩:=d2.trans (b3 x hx);exact all1 a4 a5 hw
  ·exfalso;have:=zDF b1 (m:=r) (fun x hx=>by
    obtain ⟨w,hw,rfl⟩:=d2.trans (b3 x hx);exact all1 a4 a5 hw)
   omega
 ·rcases zEy 201 0 _ q1 (by omega) with ⟨s,e',b1,b2,b3,b4,b5⟩ | ⟨e',_⟩
  ·exfalso;have:=zDF a1 (m:=s) (fun x hx=>by
    have hxr:=hb.trans (a3 x hx);exact zN2 hT hc hd d1 b4 b5 _ ⟨hxr.wt hT hc hd,rfl⟩ hxr)
   omega
  ·exact .inr ⟨e,e'⟩
end
end Go.Proofs.YtphbichgpcicnaaGreatDoor
