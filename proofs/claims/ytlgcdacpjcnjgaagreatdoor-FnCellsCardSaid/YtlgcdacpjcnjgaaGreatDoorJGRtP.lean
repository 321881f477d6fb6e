/- Roots and coroots: the program's search and the reference's. Plain lists. -/
import Derived.Test.YtlgcdacpjcnjgaaGreatDoorJGFin
namespace Go.Proofs.YtlgcdacpjcnjgaaGreatDoor
open Go.RowKit
set_option maxRecDepth 20000
def sumL (l:List Int):Int:=l.foldl (· + ·) 0
abbrev htR (r:List Int):Int:=sumL r
def dotL (l r:List Int):Int:=sumL (List.zipWith (· * ·) l r)
def rwL (c:List (List Int)) (i:Nat):List Int:=c[i]?.getD []
def mirR (c:List (List Int)) (i:Nat) (r:List Int):List Int:=r.set i (num r i-dotL (rwL c i) r)
def zBY (n i:Nat):List Int:=(List.replicate n 0).set i 1
def upB (r:List Int):Bool:=r.any fun x=>decide (0<x)
def dnB (r:List Int):Bool:=r.any fun x=>decide (x<0)
def zCK (r:List Int):Int:=if upB r=true∧dnB r=false then 1 else if dnB r=true∧upB r=false then -1 else 0
def trL (c:List (List Int)):List (List Int):=(List.range c.length).map fun i=>(List.range c.length).map fun j=>ent c j i
def befR (a b:List Int):Bool:=if htR a=htR b then gtL a b else decide (htR a<htR b)
def put7 (r:List Int):List (List Int)→List (List Int)
 | []=>[r]
 | x::l=>if befR r x=true then r::x::l else x::put7 r l
def zBi (c:List (List Int)) (k:Nat) (out:List (List Int)) (i:Nat):List (List Int) :=
 if zCK (mirR c i (rwL out k))=1∧htR (mirR c i (rwL out k))≤12∧mirR c i (rwL out k)∉out∧htR (rwL out k)<htR (mirR c i (rwL out k)) then put7 (mirR c i (rwL out k)) out else out
def sRow (c:List (List Int)) (k:Nat) (out:List (List Int)):List (List Int):=(List.range c.length).foldl (zBi c k) out
abbrev Pr:=List Int × List Int
def zDh (L:List Pr) (p:Pr):List Pr:=if p.1∉L.map Prod.fst∧zCK p.1=1∧htR p.1≤12 then L++[p] else L
def zD2 (c:List (List Int)) (p:Pr) (L:List Pr) (i:Nat):List Pr:=zDh L (mirR c i p.1,mirR (trL c) i p.2)
def zLf (c:List (List Int)) (p:Pr) (L:List Pr):List Pr:=(List.range c.length).foldl (zD2 c p) L
theorem zOg (l:List Int):∀a:Int,l.foldl (· + ·) a=a+sumL l:=by
 unfold sumL
 induction l with
 | nil=>intro a; simp
 | cons x l ih =>
  intro a;simp only [List.foldl_cons];rw [ih (a+x),ih (0+x)];omega
theorem zB7 (x:Int) (l:List Int):sumL (x::l)=x+sumL l:=by
 show (x::l).foldl (· + ·) 0=_;rw [List.foldl_cons,zOg]; omega
theorem zNc (l:List Int) (x:Int):sumL (l++[x])=sumL l+x:=by unfold sumL; rw [List.foldl_append]; rfl
theorem zJc:∀{l:List Int} {i:Nat} (y:Int),i<l.length→sumL (l.set i y)=sumL l-num l i+y
 | [],i,_,h=>by simp at h
 | x::l,0,y,_=>by rw [List.set_cons_zero,zB7,zB7]; simp [num]; omega
 | x::l,i+1,y,h=>by
  rw [List.set_cons_succ,zB7,zB7,zJc y (by simpa using h)];have:num (x::l) (i+1)=num l i:=by simp [num]
  rw [this]; omega
theorem zFo:∀{l:List Int},(∀x∈l,0≤x)→0≤sumL l∧∀x∈l,x≤sumL l
 | [],_=>⟨by simp [sumL],fun x hx=>by simp at hx⟩
 | y::l,h=>by
  obtain ⟨a,b⟩:=zFo (l:=l) (fun x hx=>h x (List.mem_cons_of_mem _ hx));have hy:=h y (List.mem_cons_self ..);rw [zB7];refine ⟨by omega,fun x hx=>?_⟩;rcases List.mem_cons.1 hx with rfl | hx
  ·omega
  ·have:=b x hx; omega
theorem zHU {l r:List Int}:∀{n:Nat},n≤l.length→n≤r.length→dotL (l.take n) (r.take n)=Cox.dotN (num l) (num r) n
 | 0,_,_=>by simp [dotL,sumL,Cox.dotN]
 | n+1,h,k=>by
  have h1:l[n]? = some l[n]:=zTE (by omega);have h2:r[n]? = some r[n]:=zTE (by omega);have ih:=zHU (l:=l) (r:=r) (n:=n) (by omega) (by omega);simp only [Cox.dotN];rw [<-ih,zAP h1,zAP h2,zAx h1,zAx h2];unfold dotL;rw [List.zipWith_append (by simp; omega)];simp only [List.zipWith_cons_cons,List.zipWith_nil_left];rw [zNc]
theorem zQV {l r:List Int} {n:Nat} (h:l.length=n) (k:r.length=n):dotL l r=Cox.dotN (num l) (num r) n:=by
 rw [<-zHU (by omega) (by omega),List.take_of_length_le (by omega),List.take_of_length_le (by omega)]
theorem zCa (c:List (List Int)) (i:Nat) (r:List Int):(mirR c i r).length=r.length:=by simp [mirR]
theorem zJE {r:List Int} {i j:Nat} {y:Int} (hi:i<r.length):num (r.set i y) j=if j=i then y else num r j:=by
 unfold num;by_cases h:j=i
 ·subst h; simp [hi]
 ·rw [if_neg h,List.getElem?_set_ne (fun e=>h e.symm)]
theorem zIK {c:List (List Int)} (hc:CartanP c) {i:Nat} (hi:i<c.length):(rwL c i).length=c.length∧∀k,k<c.length→num (rwL c i) k=ent c i k:=by
 have e:c[i]? = some c[i]:=zTE hi;refine ⟨by unfold rwL; rw [e]; exact hc.row _ (List.getElem_mem _),fun k _=>?_⟩;unfold rwL ent num; rfl
structure Rq (c:List (List Int)) (Q:List Pr):Prop where
 len:Q.length≤24
 nd:(Q.map Prod.fst).Nodup
 sh:∀p∈Q,p.1.length=c.length∧p.2.length=c.length
 nn:∀p∈Q,(∀x∈p.1,0≤x)∧∀x∈p.2,0≤x
 ht:∀p∈Q,htR p.1≤12∧htR p.2≤12
 unit:∀i,i<c.length→(zBY c.length i,zBY c.length i)∈Q
 cl:∀p∈Q,∀i,i<c.length→p.1=zBY c.length i∨(mirR c i p.1,mirR (trL c) i p.2)∈Q
 dn:∀p∈Q,∃i,i<c.length∧(p.1=zBY c.length i∨htR (mirR c i p.1)<htR p.1)
theorem zFp:∀{l:List Int},(∀x∈l,x≤0)→sumL l≤0
 | [],_=>by simp [sumL]
 | y::l,h=>by
  have a:=zFp (l:=l) (fun x hx=>h x (List.mem_cons_of_mem _ hx));have hy:=h y (List.mem_cons_self ..);rw [zB7]; omega
theorem zRm {r:List Int}:upB r=true↔∃x∈r,0<x:=by unfold upB; simp
theorem zKN {r:List Int}:dnB r=true↔∃x∈r,x<0:=by unfold dnB; simp
theorem zJT {r:List Int}:zCK r=1↔upB r=true∧dnB r=false:=by
 unfold zCK;by_cases h:upB r=true∧dnB r=false
 ·simp [h]
 ·rw [if_neg h];split
  ·exact ⟨fun e=>by omega,fun e=>absurd e h⟩
  ·exact ⟨fun e=>by omega,fun e=>absurd e h⟩
theorem zFK (n i:Nat):(zBY n i).length=n:=by simp [zBY]
theorem zHm {n i j:Nat} (hi:i<n) (hj:j<n):num (zBY n i) j=if j=i then 1 else 0:=by
 unfold zBY;rw [zJE (by simpa using hi)];by_cases h:j=i
 ·rw [if_pos h,if_pos h]
 ·rw [if_neg h,if_neg h]; simp [num,hj]
theorem zK7:∀n:Nat,sumL (List.replicate n (0:Int))=0
 | 0=>rfl
 | n+1=>by rw [List.replicate_succ,zB7,zK7 n]; rfl
theorem zIp {n i:Nat} (hi:i<n):htR (zBY n i)=1:=by
 unfold zBY htR;rw [zJc _ (by simpa using hi),zK7];simp [num,hi]
theorem zKe {r:List Int} {n j:Nat} (h:r.length=n) (hj:j<n):num r j∈r:=by
 have e:r[j]? = some (r[j]'(by omega)):=zTE _;rw [zAx e]; exact List.getElem_mem _
theorem zI1 {c:List (List Int)} {n i j:Nat} {E:Nat→Nat→Int} {r:List Int} (hr:r.length=n) (hl:(rwL c i).length=n) (hE:∀k,k<n→num (rwL c i) k=E i k) (hi:i<n):num (mirR c i r) j=Cox.sR n E i (num r) j:=by
 unfold mirR Cox.sR;rw [zJE (by omega),zQV hl hr,zCy (f':=E i) hE];unfold Cox.e;by_cases h:j=i
 ·subst h; simp
 ·simp [h]
theorem zQs {c:List (List Int)} {n i:Nat} {E:Nat→Nat→Int} {r:List Int} (hr:r.length=n) (hl:(rwL c i).length=n) (hE:∀k,k<n→num (rwL c i) k=E i k) (hi:i<n) (hC:Cox.Car n E):mirR c i (mirR c i r)=r:=by
 refine zCU (n:=n) (by rw [zCa,zCa]; exact hr) hr fun j hj=>?_;rw [zI1 (by rw [zCa]; exact hr) hl hE hi];have e:∀k,num (mirR c i r) k=Cox.sR n E i (num r) k:=fun k=>zI1 hr hl hE hi;rw [show num (mirR c i r)=Cox.sR n E i (num r) from funext e,Cox.sR_two hC hi]
section
variable {c:List (List Int)} {Q:List Pr}
theorem zI0 (hc:CartanP c) {i:Nat} (hi:i<c.length) {r:List Int} (hr:r.length=c.length):mirR c i (mirR c i r)=r:=zQs hr (zIK hc hi).1 (zIK hc hi).2 hi hc.car
theorem zI2 (hc:CartanP c) {i:Nat} (hi:i<c.length):num (mirR c i (zBY c.length i)) i = -1:=by
 rw [zI1 (zFK _ _) (zIK hc hi).1 (zIK hc hi).2 hi];unfold Cox.sR;rw [zHm hi hi,Cox.dotN_congr (h:=Cox.e i) (fun k hk=>by rw [zHm hi hk]; rfl),Cox.dotN_e _ _ _ hi,hc.car.diag i hi];simp [Cox.e]
theorem zEe (hc:CartanP c) {i:Nat} (hi:i<c.length):zCK (mirR c i (zBY c.length i))≠1:=fun e=>by
 have h:=zKe (r:=mirR c i (zBY c.length i)) (n:=c.length) (by rw [zCa,zFK]) hi;rw [zI2 hc hi] at h;have:=(zJT.1 e).2;rw [zKN.2 ⟨_,h,by omega⟩] at this;cases this
theorem Rq.fn (h:Rq c Q) {p q:Pr} (hp:p∈Q) (hq:q∈Q) (e:p.1=q.1):p=q:=by
 obtain ⟨i,hi⟩:=List.getElem?_of_mem hp;obtain ⟨j,hj⟩:=List.getElem?_of_mem hq;have h1:(Q.map Prod.fst)[i]? = some p.1:=by rw [List.getElem?_map,hi]; rfl
 have h2:(Q.map Prod.fst)[j]? = some q.1:=by rw [List.getElem?_map,hj]; rfl
 have:i=j:=(List.getElem?_inj (zTG h1).1 h.nd).1 (by rw [h1,h2,e]);subst this;rw [hi] at hj;simpa using hj
theorem Rq.pos (h:Rq c Q) {p:Pr} (hp:p∈Q):0<htR p.1:=by
 obtain ⟨i,hi,e | e⟩:=h.dn p hp
 ·rw [e,zIp hi]; omega
 ·rcases h.cl p hp i hi with e' | e'
  ·rw [e',zIp hi]; omega
  ·have:=(zFo (h.nn _ e').1).1;have e:htR (mirR c i p.1)<htR p.1:=e;unfold htR at *;simp only at this;omega
theorem Rq.sign (h:Rq c Q) {p:Pr} (hp:p∈Q):zCK p.1=1:=by
 refine zJT.2 ⟨?_,?_⟩
 ·cases e:upB p.1 with
  | true=>rfl
  | false =>
   exfalso;have h1:=h.pos hp;have h2:=zFp (l:=p.1) (fun x hx=>by
    rcases Int.lt_or_le 0 x with hx0 | hx0
    ·have:=zRm.2 ⟨x,hx,hx0⟩; rw [e] at this; cases this
    ·exact hx0)
   unfold htR at h1;omega
 ·cases e:dnB p.1 with
  | false=>rfl
  | true =>
   exfalso;obtain ⟨x,hx,h0⟩:=zKN.1 e;have:=(h.nn p hp).1 x hx;omega
theorem Rq.ne_neg (h:Rq c Q) (hc:CartanP c) {q:Pr} (hq:q∈Q) {i:Nat} (hi:i<c.length):q.1≠mirR c i (zBY c.length i):=fun e=>by
 have h1:=zKe (h.sh q hq).1 hi;rw [e,zI2 hc hi] at h1;have:=(h.nn q hq).1 (-1) (by rw [e]; exact h1);omega
structure PI7 (c:List (List Int)) (Q:List Pr) (k:Nat) (L:List Pr):Prop where
 sub:∀p∈L,p∈Q
 nd:(L.map Prod.fst).Nodup
 un:∀i,i<c.length→zBY c.length i∈L.map Prod.fst
 dn:∀(j:Nat) (p:Pr),j<k→L[j]? = some p→∀i,i<c.length→p.1=zBY c.length i∨mirR c i p.1∈L.map Prod.fst
theorem PI7.len {k:Nat} {L:List Pr} (h:PI7 c Q k L) (hQ:Rq c Q):L.length≤24:=by
 have h1:(L.map Prod.fst).length≤(Q.map Prod.fst).length:=zGW h.nd (fun x hx=>by
  obtain ⟨p,hp,rfl⟩:=List.mem_map.1 hx;exact List.mem_map_of_mem (h.sub p hp))
 have:=hQ.len;simp at h1;omega
theorem zNq (hQ:Rq c Q) {L:List Pr} {p:Pr} (hs:∀q∈L,q∈Q) (hn:(L.map Prod.fst).Nodup) (hp:p∈Q∨zCK p.1≠1) :
  (∀q∈zDh L p,q∈Q)∧((zDh L p).map Prod.fst).Nodup∧(∃l,zDh L p=L++l∧l.length≤1)∧(p∈Q→p.1∈(zDh L p).map Prod.fst):=by
 unfold zDh;by_cases h:p.1∉L.map Prod.fst∧zCK p.1=1∧htR p.1≤12
 ·rw [if_pos h];have hpQ:p∈Q:=hp.elim id (fun e=>absurd h.2.1 e);refine ⟨fun q hq=>?_,?_,⟨[p],rfl,by simp⟩,fun _=>by simp⟩
  ·rcases List.mem_append.1 hq with hq | hq
   ·exact hs q hq
   ·rw [List.mem_singleton] at hq; subst hq; exact hpQ
  ·rw [List.map_append,List.map_cons,List.map_nil];exact List.nodup_append.2 ⟨hn,by simp,fun a ha b hb=>by simp at hb; subst hb; exact fun e=>h.1 (e ▸ ha)⟩
 ·rw [if_neg h];refine ⟨hs,hn,⟨[],by simp,by simp⟩,fun hpQ=>?_⟩;rcases Classical.em (p.1∈L.map Prod.fst) with hm | hm
  ·exact hm
  ·exact absurd ⟨hm,hQ.sign hpQ,(hQ.ht p hpQ).1⟩ h
theorem zHq (hQ:Rq c Q) (hc:CartanP c) {p:Pr} (hp:p∈Q):∀(m:Nat) {L:List Pr},m≤c.length→(∀q∈L,q∈Q)→(L.map Prod.fst).Nodup →
  (∀q∈(List.range m).foldl (zD2 c p) L,q∈Q)∧(((List.range m).foldl (zD2 c p) L).map Prod.fst).Nodup∧(∃l,(List.range m).foldl (zD2 c p) L=L++l) ∧
   ∀i,i<m→p.1=zBY c.length i∨mirR c i p.1∈((List.range m).foldl (zD2 c p) L).map Prod.fst
 | 0,L,_,hs,hn=>⟨hs,hn,⟨[],by simp⟩,fun i hi=>by omega⟩
 | m+1,L,hm,hs,hn=>by
  obtain ⟨a1,a2,⟨l,a3⟩,a4⟩:=zHq hQ hc hp m (L:=L) (by omega) hs hn;rw [List.range_succ,List.foldl_append,List.foldl_cons,List.foldl_nil];generalize (List.range m).foldl (zD2 c p) L=M at *;have hor:(mirR c m p.1,mirR (trL c) m p.2)∈Q∨zCK (mirR c m p.1)≠1:=by
   rcases hQ.cl p hp m (by omega) with e | e
   ·exact .inr (by rw [e]; exact zEe hc (by omega))
   ·exact .inl e
  obtain ⟨b1,b2,⟨l',b3,_⟩,b4⟩:=zNq hQ a1 a2 hor;refine ⟨b1,b2,⟨l++l',by show zDh M _=_; rw [b3,a3,List.append_assoc]⟩,fun i hi=>?_⟩;rcases Nat.lt_or_ge i m with h | h
  ·rcases a4 i h with e | e
   ·exact .inl e
   ·right;show mirR c i p.1∈(zDh M _).map Prod.fst;rw [b3,List.map_append]; exact List.mem_append_left _ e
  ·have:i=m:=by omega
   subst this;rcases hQ.cl p hp i (by omega) with e | e
   ·exact .inl e
   ·exact .inr (b4 e)
theorem PI7.row (hQ:Rq c Q) (hc:CartanP c) {k:Nat} {L:List Pr} {p:Pr} (h:PI7 c Q k L) (hp:L[k]? = some p):PI7 c Q (k+1) (zLf c p L)∧∃l,zLf c p L=L++l:=by
 obtain ⟨a1,a2,⟨l,a3⟩,a4⟩:=zHq hQ hc (h.sub p (zTF hp)) c.length (zTI _) h.sub h.nd;have e:zLf c p L=L++l:=a3;have hk:=(zTG hp).1;refine ⟨⟨a1,a2,fun i hi=>?_,fun j q hj hq i hi=>?_⟩,l,e⟩
 ·rw [e,List.map_append]; exact List.mem_append_left _ (h.un i hi)
 ·rcases Nat.lt_or_ge j k with hjk | hjk
  ·rw [e,List.getElem?_append_left (by omega)] at hq;rcases h.dn j q hjk hq i hi with e' | e'
   ·exact .inl e'
   ·right; rw [e,List.map_append]; exact List.mem_append_left _ e'
  ·have:j=k:=by omega
   subst this;rw [e,List.getElem?_append_left (by omega),hp] at hq;simp only [Option.some.injEq] at hq;subst hq;exact a4 i hi
theorem PI7.all (hQ:Rq c Q) (hc:CartanP c) {L:List Pr} (h:PI7 c Q L.length L):∀(m:Nat) (q:Pr),q∈Q→htR q.1≤m→q.1∈L.map Prod.fst
 | 0,q,hq,hm=>by have:=hQ.pos hq; omega
 | m+1,q,hq,hm=>by
  obtain ⟨i,hi,e | e⟩:=hQ.dn q hq
  ·rw [e]; exact h.un i hi
  ·rcases hQ.cl q hq i hi with e' | e'
   ·rw [e']; exact h.un i hi
   ·have ih:=PI7.all hQ hc h m _ e' (by show htR (mirR c i q.1)≤m; omega);obtain ⟨p,hp,ep⟩:=List.mem_map.1 ih;have ep:p.1=mirR c i q.1:=ep;obtain ⟨j,hj⟩:=List.getElem?_of_mem hp;have hb:=zI0 hc hi (hQ.sh q hq).1;rcases h.dn j p (zTG hj).1 hj i hi with e2 | e2
    ·exfalso;rw [<-ep,e2] at hb;exact hQ.ne_neg hc hq hi hb.symm
    ·rw [ep,hb] at e2; exact e2
theorem zNv (a:List Int):befR a a=false:=by unfold befR; rw [if_pos rfl]; exact zKV a
theorem zGw {a b:List Int} (h:befR a b=true):htR a≤htR b:=by
 unfold befR at h;split at h
 ·omega
 ·have:=of_decide_eq_true h; omega
theorem zP3 {a b:List Int} (h:htR b<htR a):befR a b=false:=by unfold befR; rw [if_neg (by omega)]; exact decide_eq_false (by omega)
theorem zLI {a b d:List Int} (h:befR a b=true) (k:befR b d=true):befR a d=true:=by
 have h1:=zGw h;have h2:=zGw k;unfold befR at *;by_cases e1:htR a=htR b
 ·by_cases e2:htR b=htR d
  ·rw [if_pos e1] at h; rw [if_pos e2] at k;rw [if_pos (by omega)]; exact zHZ h k
  ·rw [if_neg (by omega)]; exact decide_eq_true (by omega)
 ·rw [if_neg (by omega)]; exact decide_eq_true (by omega)
theorem zLH {a b:List Int} (hl:a.length=b.length) (hne:a≠b):befR a b=true∨befR b a=true:=by
 unfold befR;by_cases e:htR a=htR b
 ·rw [if_pos e,if_pos e.symm]; exact zHY hl hne
 ·rw [if_neg e,if_neg (fun h=>e h.symm)];rcases Int.lt_or_gt_of_ne e with h | h
  ·exact .inl (decide_eq_true h)
  ·exact .inr (decide_eq_true h)
theorem zDa {r x:List Int}:∀{l:List (List Int)},x∈put7 r l↔x=r∨x∈l
 | []=>by simp [put7]
 | y::l=>by
  unfold put7;split
  ·simp
  ·rw [List.mem_cons,zDa,List.mem_cons];constructor
   ·rintro (h | h | h)
    ·exact .inr (.inl h)
    ·exact .inl h
    ·exact .inr (.inr h)
   ·rintro (h | h | h)
    ·exact .inr (.inl h)
    ·exact .inl h
    ·exact .inr (.inr h)
theorem zDs (r:List Int):∀l:List (List Int),(put7 r l).length=l.length+1
 | []=>rfl
 | x::l=>by
  unfold put7;split
  ·rfl
  ·simp [zDs r l]
abbrev SrtR (l:List (List Int)):Prop:=l.Pairwise fun a b=>befR a b=true
theorem zJK {n:Nat} {r:List Int} (hr:r.length=n):∀{l:List (List Int)},SrtR l→r∉l→(∀x∈l,x.length=n)→SrtR (put7 r l)
 | [],_,_,_=>List.pairwise_singleton _ _
 | x::l,h,hn,hl=>by
  have hc:=List.pairwise_cons.1 h;unfold put7;split
  ·rename_i hb
   refine List.pairwise_cons.2 ⟨fun y hy=>?_,h⟩;rcases List.mem_cons.1 hy with rfl | hy
   ·exact hb
   ·exact zLI hb (hc.1 y hy)
  ·rename_i hb
   have ih:=zJK hr hc.2 (fun e=>hn (List.mem_cons_of_mem _ e)) (fun y hy=>hl y (List.mem_cons_of_mem _ hy));refine List.pairwise_cons.2 ⟨fun y hy=>?_,ih⟩;rcases zDa.1 hy with rfl | hy
   ·rcases zLH (a:=y) (b:=x) (by rw [hr,hl x (List.mem_cons_self ..)]) (fun e=>hn (by rw [e]; exact List.mem_cons_self ..)) with h1 | h1
    ·exact absurd h1 hb
    ·exact h1
   ·exact hc.1 y hy
theorem zJJ {r x:List Int}:∀{l:List (List Int)} {k:Nat},SrtR l→l[k]? = some x→htR x<htR r→∀j,j≤k→(put7 r l)[j]? = l[j]?
 | [],k,_,h,_=>by simp at h
 | y::l,k,hs,h,hx=>fun j hj=>by
  have hc:=List.pairwise_cons.1 hs;have hy:htR y≤htR x:=by
   cases k with
   | zero=>simp at h; subst h; omega
   | succ k=>exact zGw (hc.1 x (zTF (by simpa using h)))
  unfold put7;rw [if_neg (by rw [zP3 (by omega)]; simp)];cases j with
  | zero=>rfl
  | succ j =>
   cases k with
   | zero=>omega
   | succ k =>
    simp only [List.getElem?_cons_succ];exact zJJ hc.2 (by simpa using h) hx j (by omega)
structure SI7 (c:List (List Int)) (Q:List Pr) (k:Nat) (S:List (List Int)):Prop where
 sub:∀r∈S,r∈Q.map Prod.fst
 srt:SrtR S
 un:∀i,i<c.length→zBY c.length i∈S
 dn:∀(j:Nat) (r:List Int),j<k→S[j]? = some r→∀i,i<c.length→zCK (mirR c i r)=1→htR (mirR c i r)≤12→htR r<htR (mirR c i r)→mirR c i r∈S
theorem SrtR.nodup {l:List (List Int)} (h:SrtR l):l.Nodup:=by
 refine List.Pairwise.imp (fun {a b} hab e=>?_) h;rw [e,zNv] at hab; cases hab
theorem zK4 (hQ:Rq c Q) {S:List (List Int)} (h:∀r∈S,r∈Q.map Prod.fst):∀r∈S,r.length=c.length:=fun r hr=>by
 obtain ⟨p,hp,rfl⟩:=List.mem_map.1 (h r hr);exact (hQ.sh p hp).1
theorem SI7.len {k:Nat} {S:List (List Int)} (h:SI7 c Q k S) (hQ:Rq c Q):S.length≤24:=by
 have h1:=zGW h.srt.nodup h.sub;have:=hQ.len;simp at h1;omega
theorem zPR (hQ:Rq c Q) (hc:CartanP c) {k:Nat} {S:List (List Int)} {r:List Int} (hr:S[k]? = some r) (hs:∀r∈S,r∈Q.map Prod.fst) (ht:SrtR S) {i:Nat} (hi:i<c.length) :
  (∀r∈zBi c k S i,r∈Q.map Prod.fst)∧SrtR (zBi c k S i)∧(∀x∈S,x∈zBi c k S i)∧(∀j,j≤k→(zBi c k S i)[j]? = S[j]?)∧S.length≤(zBi c k S i).length∧(zBi c k S i).length≤S.length+1 ∧
   (zCK (mirR c i r)=1→htR (mirR c i r)≤12→htR r<htR (mirR c i r)→mirR c i r∈zBi c k S i):=by
 have e:rwL S k=r:=by unfold rwL; rw [hr]; rfl
 unfold zBi;rw [e];split
 ·rename_i h
  obtain ⟨h1,h2,h3,h4⟩:=h;obtain ⟨p,hp,ep⟩:=List.mem_map.1 (hs r (zTF hr));have hm:mirR c i r∈Q.map Prod.fst:=by
   rcases hQ.cl p hp i hi with e | e
   ·exfalso;rw [ep] at e;rw [e] at h1;exact zEe hc hi h1
   ·exact List.mem_map.2 ⟨_,e,by show mirR c i p.1=_; rw [ep]⟩
  refine ⟨fun x hx=>?_,zJK (n:=c.length) (by rw [zCa]; exact zK4 hQ hs r (zTF hr)) ht h3 (zK4 hQ hs),fun x hx=>zDa.2 (.inr hx),zJJ ht hr h4,by rw [zDs]; omega,by rw [zDs]; omega,fun _ _ _=>zDa.2 (.inl rfl)⟩;rcases zDa.1 hx with rfl | hx
  ·exact hm
  ·exact hs x hx
 ·rename_i h
  refine ⟨hs,ht,fun x hx=>hx,fun _ _=>rfl,zTI _,Nat.le_succ _,fun h1 h2 h3=>?_⟩;rcases Classical.em (mirR c i r∈S) with hm | hm
  ·exact hm
  ·exact absurd ⟨h1,h2,hm,h3⟩ h
theorem zJP (hQ:Rq c Q) (hc:CartanP c) {k:Nat} {r:List Int}:∀(m:Nat) {S:List (List Int)},m≤c.length→S[k]? = some r→(∀r∈S,r∈Q.map Prod.fst)→SrtR S →
  (∀r∈(List.range m).foldl (zBi c k) S,r∈Q.map Prod.fst)∧SrtR ((List.range m).foldl (zBi c k) S)∧(∀x∈S,x∈(List.range m).foldl (zBi c k) S)∧(∀j,j≤k→((List.range m).foldl (zBi c k) S)[j]? = S[j]?)∧S.length≤((List.range m).foldl (zBi c k) S).length ∧
   ∀i,i<m→zCK (mirR c i r)=1→htR (mirR c i r)≤12→htR r<htR (mirR c i r)→mirR c i r∈(List.range m).foldl (zBi c k) S
 | 0,S,_,_,hs,ht=>⟨hs,ht,fun x hx=>hx,fun _ _=>rfl,zTI _,fun i hi=>by omega⟩
 | m+1,S,hm,hr,hs,ht=>by
  obtain ⟨a1,a2,a3,a4,a5,a6⟩:=zJP hQ hc m (S:=S) (by omega) hr hs ht;rw [List.range_succ,List.foldl_append,List.foldl_cons,List.foldl_nil];generalize (List.range m).foldl (zBi c k) S=M at *;obtain ⟨b1,b2,b3,b4,b5,_,b6⟩:=zPR hQ hc (by rw [a4 k (zTI _)]; exact hr) a1 a2 (i:=m) (by omega);refine ⟨b1,b2,fun x hx=>b3 x (a3 x hx),fun j hj=>(b4 j hj).trans (a4 j hj),Nat.le_trans a5 b5,fun i hi=>?_⟩;rcases Nat.lt_or_ge i m with h | h
  ·exact fun h1 h2 h3=>b3 _ (a6 i h h1 h2 h3)
  ·have:i=m:=by omega
   subst this;exact b6
theorem SI7.row (hQ:Rq c Q) (hc:CartanP c) {k:Nat} {S:List (List Int)} (h:SI7 c Q k S) (hk:k<S.length):SI7 c Q (k+1) (sRow c k S)∧S.length≤(sRow c k S).length:=by
 have hr:S[k]? = some S[k]:=zTE hk;obtain ⟨a1,a2,a3,a4,a5,a6⟩:=zJP hQ hc c.length (zTI _) hr h.sub h.srt;refine ⟨⟨a1,a2,fun i hi=>a3 _ (h.un i hi),fun j x hj hx i hi h1 h2 h3=>?_⟩,a5⟩;have hx2:S[j]? = some x:=by rw [<-a4 j (by omega)]; exact hx
 clear hx;have hx:=hx2;rcases Nat.lt_or_ge j k with hjk | hjk
 ·exact a3 _ (h.dn j x hjk hx i hi h1 h2 h3)
 ·have:j=k:=by omega
  subst this;rw [hr] at hx;simp only [Option.some.injEq] at hx;subst hx;exact a6 i hi h1 h2 h3
theorem SI7.all (hQ:Rq c Q) (hc:CartanP c) {S:List (List Int)} (h:SI7 c Q S.length S):∀(m:Nat) (q:Pr),q∈Q→htR q.1≤m→q.1∈S
 | 0,q,hq,hm=>by have:=hQ.pos hq; omega
 | m+1,q,hq,hm=>by
  obtain ⟨i,hi,e | e⟩:=hQ.dn q hq
  ·rw [e]; exact h.un i hi
  ·rcases hQ.cl q hq i hi with e' | e'
   ·rw [e']; exact h.un i hi
   ·have ih:=SI7.all hQ hc h m _ e' (by show htR (mirR c i q.1)≤m; omega);obtain ⟨j,hj⟩:=List.getElem?_of_mem ih;have hj:S[j]? = some (mirR c i q.1):=hj;have hb:=zI0 hc hi (hQ.sh q hq).1;have:=h.dn j _ (zTG hj).1 hj i hi;rw [hb] at this;exact this (hQ.sign hq) (hQ.ht q hq).1 e
end
end Go.Proofs.YtlgcdacpjcnjgaaGreatDoor
