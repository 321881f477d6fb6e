/- Roots and coroots: the program's search and the reference's. Plain lists. -/
import Derived.Test.YtphbichgpcicnaaGreatDoorJGGt
import Derived.Test.YtphbichgpcicnaaGreatDoorJGOrbP
namespace Go.Proofs.YtphbichgpcicnaaGreatDoor
open Go.RowKit
set_option maxRecDepth 20000
def sumL (l:List Int):Int:=l.foldl (· + ·) 0
abbrev htR (r:List Int):Int:=sumL r
def dotL (l r:List Int):Int:=sumL (List.zipWith (· * ·) l r)
def rwL (c:List (List Int)) (i:Nat):List Int:=c[i]?.getD []
def mirR (c:List (List Int)) (i:Nat) (r:List Int):List Int:=r.set i (num r i-dotL (rwL c i) r)
def zAE (n i:Nat):List Int:=(List.replicate n 0).set i 1
def upB (r:List Int):Bool:=r.any fun x=>decide (0<x)
def dnB (r:List Int):Bool:=r.any fun x=>decide (x<0)
def zAk (r:List Int):Int:=if upB r=true∧dnB r=false then 1 else if dnB r=true∧upB r=false then -1 else 0
def trL (c:List (List Int)):List (List Int):=(List.range c.length).map fun i=>(List.range c.length).map fun j=>ent c j i
def befR (a b:List Int):Bool:=if htR a=htR b then gtL a b else decide (htR a<htR b)
def put7 (r:List Int):List (List Int)→List (List Int)
 | []=>[r]
 | x::l=>if befR r x=true then r::x::l else x::put7 r l
def zAz (c:List (List Int)) (k:Nat) (out:List (List Int)) (i:Nat):List (List Int) :=
 if zAk (mirR c i (rwL out k))=1∧htR (mirR c i (rwL out k))≤12∧mirR c i (rwL out k)∉out∧htR (rwL out k)<htR (mirR c i (rwL out k)) then put7 (mirR c i (rwL out k)) out else out
def sRow (c:List (List Int)) (k:Nat) (out:List (List Int)):List (List Int):=(List.range c.length).foldl (zAz c k) out
def sBfs (c:List (List Int)):Nat→Nat→List (List Int)→List (List Int)
 | 0,_,out=>out
 | f+1,k,out=>if out.length≤k then out else sBfs c f (k+1) (sRow c k out)
def sBeg (n:Nat):List (List Int):=(List.range n).foldl (fun o i=>put7 (zAE n i) o) []
def zAT (c:List (List Int)):List (List Int):=sBfs c 40 0 (sBeg c.length)
abbrev Pr:=List Int × List Int
def zBJ (L:List Pr) (p:Pr):List Pr:=if p.1∉L.map Prod.fst∧zAk p.1=1∧htR p.1≤12 then L++[p] else L
def zCc (c:List (List Int)) (p:Pr) (L:List Pr) (i:Nat):List Pr:=zBJ L (mirR c i p.1,mirR (trL c) i p.2)
def zFR (c:List (List Int)) (p:Pr) (L:List Pr):List Pr:=(List.range c.length).foldl (zCc c p) L
def zCF (c:List (List Int)):Nat→Nat→List Pr→List Pr
 | 0,_,L=>L
 |f+1,k,L=>match L[k]? with
  | none=>L
  | some p=>zCF c f (k+1) (zFR c p L)
def zSj (n:Nat):List Pr:=(List.range n).foldl (fun L i=>zBJ L (zAE n i,zAE n i)) []
def zCO (c:List (List Int)):List Pr:=zCF c 40 0 (zSj c.length)
def zAV (c:List (List Int)):Nat→List Int→List Nat × List Int
 | 0,r=>([],r)
 |f+1,r=>match (List.range c.length).find? (fun i=>decide (htR (mirR c i r)<htR r)) with
  | none=>([],r)
  | some i=>if htR r=1 then ([],r) else (i::(zAV c f (mirR c i r)).1,(zAV c f (mirR c i r)).2)
def zAZ (c:List (List Int)) (r:List Int):List Int:=(zAV c 30 r).1.foldr (fun i x=>mirR (trL c) i x) (zAV c 30 r).2
def offE (E:Nat→Nat→Int) (i k:Nat):Nat:=if k=i then 0 else (-(E i k)).toNat
def upE (n:Nat) (E:Nat→Nat→Int) (i b:Nat):Nat:=sumN (fun k=>dg b k*offE E i k) n
def sE (n:Nat) (E:Nat→Nat→Int) (i b:Nat):Nat:=mkD n fun j=>if j=i then upE n E i b-dg b i else dg b j
def qOne (n:Nat) (E:Nat→Nat→Int) (p:Nat × Nat) (T:List (Nat × Nat)) (i:Nat):List (Nat × Nat) :=
 if dg p.1 i≤upE n E i p.1 && !((T.map Prod.fst).contains (sE n E i p.1)) then T++[(sE n E i p.1,sE n (Cox.tr E) i p.2)] else T
def qAll (n:Nat) (E:Nat→Nat→Int):Nat→List (Nat × Nat)→Nat→List (Nat × Nat)
 | 0,T,_=>T
 |f+1,T,k=>match T[k]? with
  | none=>T
  | some p=>qAll n E f ((List.range n).foldl (qOne n E p) T) (k+1)
def zBd (c:List (List Int)):List (Nat × Nat):=qAll c.length (ent c) 30 ((List.range c.length).map fun i=>(16 ^ i,16 ^ i)) 0
def chkQ (c:List (List Int)) (Q:List (Nat × Nat)):Bool :=
 decide (Q.length≤24) && (zGB (Q.map Prod.fst) && (Q.all (fun p=>decide (sumN (dg p.1) c.length≤12) && (decide (mkD c.length (dg p.1)=p.1) && (decide (mkD c.length (dg p.2)=p.2) && decide (sumN (dg p.2) c.length≤12)))) &&
 ((List.range c.length).all (fun i=>Q.contains (16 ^ i,16 ^ i) && Q.all fun p=>decide (p.1=16 ^ i) || (decide (dg p.1 i≤upE c.length (ent c) i p.1) && (decide (upE c.length (ent c) i p.1-dg p.1 i<16) &&
  (decide (dg p.2 i≤upE c.length (Cox.tr (ent c)) i p.2) && (decide (upE c.length (Cox.tr (ent c)) i p.2-dg p.2 i<16) && Q.contains (sE c.length (ent c) i p.1,sE c.length (Cox.tr (ent c)) i p.2)))))) &&
 Q.all fun p=>(List.range c.length).any fun i=>decide (p.1=16 ^ i) || decide (upE c.length (ent c) i p.1<2*dg p.1 i))))
theorem zRB:(Fin.L1++Fin.L2++Fin.L3++Fin.L4).all (fun c=>chkQ c (zBd c))=true:=by decide +kernel
theorem zRR (l:List Int):∀a:Int,l.foldl (· + ·) a=a+sumL l:=by
 unfold sumL
 induction l with
 | nil=>intro a; simp
 | cons x l ih =>
  intro a;simp only [List.foldl_cons];rw [ih (a+x),ih (0+x)];omega
theorem zBm (x:Int) (l:List Int):sumL (x::l)=x+sumL l:=by
 show (x::l).foldl (· + ·) 0=_;rw [List.foldl_cons,zRR]; omega
theorem zDZ (l:List Int) (x:Int):sumL (l++[x])=sumL l+x:=by unfold sumL; rw [List.foldl_append]; rfl
theorem zGO {l:List Int} {k:Nat} {x:Int} (h:l[k]? = some x):sumL (l.take (k+1))=sumL (l.take k)+x:=by rw [zAG h,zDZ]
theorem zHZ:∀{l:List Int} {i:Nat} (y:Int),i<l.length→sumL (l.set i y)=sumL l-num l i+y
 | [],i,_,h=>by simp at h
 | x::l,0,y,_=>by rw [List.set_cons_zero,zBm,zBm]; simp [num]; omega
 | x::l,i+1,y,h=>by
  rw [List.set_cons_succ,zBm,zBm,zHZ y (by simpa using h)];have:num (x::l) (i+1)=num l i:=by simp [num]
  rw [this]; omega
theorem zA3:∀{l:List Int},(∀x∈l,0≤x)→0≤sumL l∧∀x∈l,x≤sumL l
 | [],_=>⟨by simp [sumL],fun x hx=>by simp at hx⟩
 | y::l,h=>by
  obtain ⟨a,b⟩:=zA3 (l:=l) (fun x hx=>h x (List.mem_cons_of_mem _ hx));have hy:=h y (List.mem_cons_self ..);rw [zBm];refine ⟨by omega,fun x hx=>?_⟩;rcases List.mem_cons.1 hx with rfl | hx
  ·omega
  ·have:=b x hx; omega
theorem zI9 {l r:List Int}:∀{n:Nat},n≤l.length→n≤r.length→dotL (l.take n) (r.take n)=Cox.dotN (num l) (num r) n
 | 0,_,_=>by simp [dotL,sumL,Cox.dotN]
 | n+1,h,k=>by
  have h1:l[n]? = some l[n]:=zWG (by omega);have h2:r[n]? = some r[n]:=zWG (by omega);have ih:=zI9 (l:=l) (r:=r) (n:=n) (by omega) (by omega);simp only [Cox.dotN];rw [<-ih,zAG h1,zAG h2,zAS h1,zAS h2];unfold dotL;rw [List.zipWith_append (by simp; omega)];simp only [List.zipWith_cons_cons,List.zipWith_nil_left];rw [zDZ]
theorem zCx {l r:List Int} {n:Nat} (h:l.length=n) (k:r.length=n):dotL l r=Cox.dotN (num l) (num r) n:=by
 rw [<-zI9 (by omega) (by omega),List.take_of_length_le (by omega),List.take_of_length_le (by omega)]
theorem zBX (c:List (List Int)) (i:Nat) (r:List Int):(mirR c i r).length=r.length:=by simp [mirR]
theorem zO3 {c:List (List Int)} {i:Nat} {r:List Int} (h:i<r.length):htR (mirR c i r)=htR r-dotL (rwL c i) r:=by
 unfold mirR htR; rw [zHZ _ h]; omega
theorem zGj {r:List Int} {i j:Nat} {y:Int} (hi:i<r.length):num (r.set i y) j=if j=i then y else num r j:=by
 unfold num;by_cases h:j=i
 ·subst h; simp [hi]
 ·rw [if_neg h,List.getElem?_set_ne (fun e=>h e.symm)]
theorem zGs {E:Nat→Nat→Int} {i b:Nat} (hd:E i i=2):∀{n:Nat},(∀k,k<n→k≠i→E i k≤0)→Cox.dotN (E i) (fun k=>(dg b k:Int)) n=(if i<n then 2*(dg b i:Int) else 0)-(upE n E i b:Int)
 | 0,_=>by simp [Cox.dotN,upE,sumN]
 | n+1,ho=>by
  have ih:=zGs (b:=b) hd (n:=n) (fun k hk=>ho k (by omega));unfold upE at *;simp only [Cox.dotN,sumN];rw [ih];by_cases h:n=i
  ·subst h;simp [offE,hd];omega
  ·have h0:=ho n (by omega) h;obtain ⟨a,ha⟩:∃a:Nat,E i n = -(a:Int):=⟨(-(E i n)).toNat,by omega⟩;have e2:offE E i n=a:=by unfold offE; rw [if_neg h,ha]; simp
   rw [ha,e2];have e3:(i<n+1)=(i<n):=by apply propext; omega
   simp only [e3];rw [Int.natCast_add,Int.natCast_mul,Int.neg_mul,Int.mul_comm (a:Int)];omega
theorem zBM (n b:Nat):(zAM n b).length=n:=by simp [zAM]
theorem zMp {n i b:Nat} {E:Nat→Nat→Int} {row:List Int} (hn:n≤4) (hi:i<n) (hr:row.length=n) (hE:∀k,k<n→num row k=E i k) (hd:E i i=2) (ho:∀k,k<n→k≠i→E i k≤0)
  (h1:dg b i≤upE n E i b) (h2:upE n E i b-dg b i<16):(zAM n b).set i (num (zAM n b) i-dotL row (zAM n b))=zAM n (sE n E i b):=by
 refine zBz (n:=n) (by simp [zBM]) (zBM _ _) fun j hj=>?_;rw [zGj (by rw [zBM]; exact hi),zA7 hj,zA7 hj,zA7 hi,zCx hr (zBM n b)];have hd':=zGs (b:=b) hd ho;rw [if_pos hi] at hd';rw [Cox.dotN_congr (h:=fun k=>(dg b k:Int)) (fun k hk=>zA7 hk),zA8 (f':=E i) hE,hd'];unfold sE;rw [zSb hn (fun k hk=>by split; exact h2; exact zSa _ _) hj];by_cases h:j=i
 ·subst h; simp; omega
 ·simp [h]
theorem zEr (n b:Nat):htR (zAM n b)=(sumN (dg b) n:Int):=by
 unfold zAM htR
 induction n with
 | zero=>simp [sumL,sumN]
 | succ n ih=>rw [List.range_succ,List.map_append,List.map_cons,List.map_nil,zDZ,ih]; simp [sumN]
theorem zUs {n i:Nat} (hn:n≤4) (hi:i<n):zAM n (16 ^ i)=zAE n i:=by
 refine zBz (n:=n) (zBM _ _) (by simp [zAE]) fun j hj=>?_;rw [zA7 hj,zMJ (by omega) (by omega)];unfold zAE Cox.e;rw [zGj (by simpa using hi)];by_cases h:j=i
 ·rw [if_pos h,if_pos h]
 ·rw [if_neg h,if_neg h]; simp [num,hj]
theorem zOG (c:List (List Int)):(trL c).length=c.length:=by simp [trL]
theorem zLH {c:List (List Int)} {i:Nat} (hi:i<c.length):(rwL (trL c) i).length=c.length∧∀k,k<c.length→num (rwL (trL c) i) k=ent c k i:=by
 have e:rwL (trL c) i=(List.range c.length).map fun j=>ent c j i:=by simp [rwL,trL,hi]
 rw [e];exact ⟨by simp,fun k hk=>zBE hk⟩
theorem zFZ {c:List (List Int)} (hc:CartanP c) {i:Nat} (hi:i<c.length):(rwL c i).length=c.length∧∀k,k<c.length→num (rwL c i) k=ent c i k:=by
 have e:c[i]? = some c[i]:=zWG hi;refine ⟨by unfold rwL; rw [e]; exact hc.row _ (List.getElem_mem _),fun k _=>?_⟩;unfold rwL ent num; rfl
structure Rq (c:List (List Int)) (Q:List Pr):Prop where
 len:Q.length≤24
 nd:(Q.map Prod.fst).Nodup
 sh:∀p∈Q,p.1.length=c.length∧p.2.length=c.length
 nn:∀p∈Q,(∀x∈p.1,0≤x)∧∀x∈p.2,0≤x
 ht:∀p∈Q,htR p.1≤12∧htR p.2≤12
 unit:∀i,i<c.length→(zAE c.length i,zAE c.length i)∈Q
 cl:∀p∈Q,∀i,i<c.length→p.1=zAE c.length i∨(mirR c i p.1,mirR (trL c) i p.2)∈Q
 dn:∀p∈Q,∃i,i<c.length∧(p.1=zAE c.length i∨htR (mirR c i p.1)<htR p.1)
def prsL (c:List (List Int)):List Pr:=(zBd c).map fun p=>(zAM c.length p.1,zAM c.length p.2)
theorem FinP.rq {c:List (List Int)} (h:FinP c):Rq c (prsL c):=by
 have hc:=h.cart;have h4:=hc.le;have:=h.all zRB;unfold chkQ at this;simp only [Bool.and_eq_true,decide_eq_true_eq,List.all_eq_true,List.mem_range,List.contains_eq_mem,Bool.or_eq_true,List.any_eq_true] at this;obtain ⟨h1,h2,h3,h4',h5⟩:=this;have hnd:=zFN h2;have hC:=fun (i:Nat) (hi:i<c.length)=>zFZ hc hi;have hT:=fun (i:Nat) (hi:i<c.length)=>zLH (c:=c) hi;have hdg:=fun (i:Nat) (hi:i<c.length)=>hc.car.diag i hi;have hof:=fun (i k:Nat) (hi:i<c.length) (hk:k<c.length) (hne:k≠i)=>hc.car.off i k hi hk (Ne.symm hne);have hof':=fun (i k:Nat) (hi:i<c.length) (hk:k<c.length) (hne:k≠i)=>hc.car.off k i hk hi hne;have hu:=fun (i:Nat) (hi:i<c.length)=>zUs h4 hi;unfold prsL;generalize zBd c=T at *
 have hmir:∀(i b:Nat),i<c.length→dg b i≤upE c.length (ent c) i b→upE c.length (ent c) i b-dg b i<16→mirR c i (zAM c.length b)=zAM c.length (sE c.length (ent c) i b) :=
  fun i b hi k1 k2=>zMp h4 hi (hC i hi).1 (hC i hi).2 (hdg i hi) (fun k hk hne=>(hof i k hi hk hne).2) k1 k2
 have hmirT:∀(i b:Nat),i<c.length→dg b i≤upE c.length (Cox.tr (ent c)) i b→upE c.length (Cox.tr (ent c)) i b-dg b i<16→mirR (trL c) i (zAM c.length b)=zAM c.length (sE c.length (Cox.tr (ent c)) i b) :=
  fun i b hi k1 k2=>zMp h4 hi (hT i hi).1 (hT i hi).2 (hdg i hi) (fun k hk hne=>(hof' i k hi hk hne).2) k1 k2
 refine ⟨by simpa using h1,?_,fun p hp=>?_,fun p hp=>?_,fun p hp=>?_,fun i hi=>?_,fun p hp i hi=>?_,fun p hp=>?_⟩
 ·rw [List.map_map];have e:(Prod.fst ∘ fun p:Nat × Nat=>(zAM c.length p.1,zAM c.length p.2))=zAM c.length ∘ Prod.fst:=rfl;rw [e,<-List.map_map];refine zDW (fun x hx y hy e=>?_) hnd;obtain ⟨p,hp,rfl⟩:=List.mem_map.1 hx;obtain ⟨q,hq,rfl⟩:=List.mem_map.1 hy;exact zNC (h3 p hp).2.1 (h3 q hq).2.1 e
 ·obtain ⟨q,_,rfl⟩:=List.mem_map.1 hp;exact ⟨zBM _ _,zBM _ _⟩
 ·obtain ⟨q,_,rfl⟩:=List.mem_map.1 hp;constructor
  ·intro x hx;obtain ⟨k,_,rfl⟩:=List.mem_map.1 hx;omega
  ·intro x hx;obtain ⟨k,_,rfl⟩:=List.mem_map.1 hx;omega
 ·obtain ⟨q,hq,rfl⟩:=List.mem_map.1 hp;have:=(h3 q hq).1;have:=(h3 q hq).2.2.2;exact ⟨by rw [zEr]; omega,by rw [zEr]; omega⟩
 ·exact List.mem_map.2 ⟨_,(h4' i hi).1,by rw [hu i hi]⟩
 ·obtain ⟨q,hq,rfl⟩:=List.mem_map.1 hp;rcases (h4' i hi).2 q hq with e | ⟨k1,k2,k3,k4,k5⟩
  ·exact .inl (by rw [e]; exact hu i hi)
  ·exact .inr (List.mem_map.2 ⟨_,k5,by rw [hmir i q.1 hi k1 k2,hmirT i q.2 hi k3 k4]⟩)
 ·obtain ⟨q,hq,rfl⟩:=List.mem_map.1 hp;obtain ⟨i,hi,hor⟩:=h5 q hq;refine ⟨i,hi,?_⟩;rcases hor with e | e
  ·exact .inl (by rw [e]; exact hu i hi)
  ·right;rw [zO3 (by rw [zBM]; exact hi),zCx (hC i hi).1 (zBM _ _)];have hd':=zGs (b:=q.1) (hdg i hi) (fun k hk hne=>(hof i k hi hk hne).2);rw [if_pos hi] at hd';rw [Cox.dotN_congr (h:=fun k=>(dg q.1 k:Int)) (fun k hk=>zA7 hk),zA8 (f':=ent c i) (hC i hi).2,hd'];omega
theorem zG6:∀{l:List Int},(∀x∈l,x≤0)→sumL l≤0
 | [],_=>by simp [sumL]
 | y::l,h=>by
  have a:=zG6 (l:=l) (fun x hx=>h x (List.mem_cons_of_mem _ hx));have hy:=h y (List.mem_cons_self ..);rw [zBm]; omega
theorem zUt {r:List Int}:upB r=true↔∃x∈r,0<x:=by unfold upB; simp
theorem zMK {r:List Int}:dnB r=true↔∃x∈r,x<0:=by unfold dnB; simp
theorem zLL {r:List Int}:zAk r=1↔upB r=true∧dnB r=false:=by
 unfold zAk;by_cases h:upB r=true∧dnB r=false
 ·simp [h]
 ·rw [if_neg h];split
  ·exact ⟨fun e=>by omega,fun e=>absurd e h⟩
  ·exact ⟨fun e=>by omega,fun e=>absurd e h⟩
theorem zA4 (n i:Nat):(zAE n i).length=n:=by simp [zAE]
theorem zDY {n i j:Nat} (hi:i<n) (hj:j<n):num (zAE n i) j=if j=i then 1 else 0:=by
 unfold zAE;rw [zGj (by simpa using hi)];by_cases h:j=i
 ·rw [if_pos h,if_pos h]
 ·rw [if_neg h,if_neg h]; simp [num,hj]
theorem zMz:∀n:Nat,sumL (List.replicate n (0:Int))=0
 | 0=>rfl
 | n+1=>by rw [List.replicate_succ,zBm,zMz n]; rfl
theorem zCz {n i:Nat} (hi:i<n):htR (zAE n i)=1:=by
 unfold zAE htR;rw [zHZ _ (by simpa using hi),zMz];simp [num,hi]
theorem zBB {r:List Int} {n j:Nat} (h:r.length=n) (hj:j<n):num r j∈r:=by
 have e:r[j]? = some (r[j]'(by omega)):=zWG _;rw [zAS e]; exact List.getElem_mem _
theorem zKi {c:List (List Int)} {n i j:Nat} {E:Nat→Nat→Int} {r:List Int} (hr:r.length=n) (hl:(rwL c i).length=n) (hE:∀k,k<n→num (rwL c i) k=E i k) (hi:i<n):num (mirR c i r) j=Cox.sR n E i (num r) j:=by
 unfold mirR Cox.sR;rw [zGj (by omega),zCx hl hr,zA8 (f':=E i) hE];unfold Cox.e;by_cases h:j=i
 ·subst h; simp
 ·simp [h]
theorem zMd {c:List (List Int)} {n i:Nat} {E:Nat→Nat→Int} {r:List Int} (hr:r.length=n) (hl:(rwL c i).length=n) (hE:∀k,k<n→num (rwL c i) k=E i k) (hi:i<n) (hC:Cox.Car n E):mirR c i (mirR c i r)=r:=by
 refine zBz (n:=n) (by rw [zBX,zBX]; exact hr) hr fun j hj=>?_;rw [zKi (by rw [zBX]; exact hr) hl hE hi];have e:∀k,num (mirR c i r) k=Cox.sR n E i (num r) k:=fun k=>zKi hr hl hE hi;rw [show num (mirR c i r)=Cox.sR n E i (num r) from funext e,Cox.sR_two hC hi]
section
variable {c:List (List Int)} {Q:List Pr}
theorem zKh (hc:CartanP c) {i:Nat} (hi:i<c.length) {r:List Int} (hr:r.length=c.length):mirR c i (mirR c i r)=r:=zMd hr (zFZ hc hi).1 (zFZ hc hi).2 hi hc.car
theorem zPF (hc:CartanP c) {i:Nat} (hi:i<c.length) {r:List Int} (hr:r.length=c.length):mirR (trL c) i (mirR (trL c) i r)=r:=zMd (E:=Cox.tr (ent c)) hr (zLH hi).1 (zLH hi).2 hi hc.car.tr
theorem zKj (hc:CartanP c) {i:Nat} (hi:i<c.length):num (mirR c i (zAE c.length i)) i = -1:=by
 rw [zKi (zA4 _ _) (zFZ hc hi).1 (zFZ hc hi).2 hi];unfold Cox.sR;rw [zDY hi hi,Cox.dotN_congr (h:=Cox.e i) (fun k hk=>by rw [zDY hi hk]; rfl),Cox.dotN_e _ _ _ hi,hc.car.diag i hi];simp [Cox.e]
theorem zDf (hc:CartanP c) {i:Nat} (hi:i<c.length):zAk (mirR c i (zAE c.length i))≠1:=fun e=>by
 have h:=zBB (r:=mirR c i (zAE c.length i)) (n:=c.length) (by rw [zBX,zA4]) hi;rw [zKj hc hi] at h;have:=(zLL.1 e).2;rw [zMK.2 ⟨_,h,by omega⟩] at this;cases this
theorem Rq.fn (h:Rq c Q) {p q:Pr} (hp:p∈Q) (hq:q∈Q) (e:p.1=q.1):p=q:=by
 obtain ⟨i,hi⟩:=List.getElem?_of_mem hp;obtain ⟨j,hj⟩:=List.getElem?_of_mem hq;have h1:(Q.map Prod.fst)[i]? = some p.1:=by rw [List.getElem?_map,hi]; rfl
 have h2:(Q.map Prod.fst)[j]? = some q.1:=by rw [List.getElem?_map,hj]; rfl
 have:i=j:=(List.getElem?_inj (zWI h1).1 h.nd).1 (by rw [h1,h2,e]);subst this;rw [hi] at hj;simpa using hj
theorem Rq.pos (h:Rq c Q) {p:Pr} (hp:p∈Q):0<htR p.1:=by
 obtain ⟨i,hi,e | e⟩:=h.dn p hp
 ·rw [e,zCz hi]; omega
 ·rcases h.cl p hp i hi with e' | e'
  ·rw [e',zCz hi]; omega
  ·have:=(zA3 (h.nn _ e').1).1;have e:htR (mirR c i p.1)<htR p.1:=e;unfold htR at *;simp only at this;omega
theorem Rq.sign (h:Rq c Q) {p:Pr} (hp:p∈Q):zAk p.1=1:=by
 refine zLL.2 ⟨?_,?_⟩
 ·cases e:upB p.1 with
  | true=>rfl
  | false =>
   exfalso;have h1:=h.pos hp;have h2:=zG6 (l:=p.1) (fun x hx=>by
    rcases Int.lt_or_le 0 x with hx0 | hx0
    ·have:=zUt.2 ⟨x,hx,hx0⟩; rw [e] at this; cases this
    ·exact hx0)
   unfold htR at h1;omega
 ·cases e:dnB p.1 with
  | false=>rfl
  | true =>
   exfalso;obtain ⟨x,hx,h0⟩:=zMK.1 e;have:=(h.nn p hp).1 x hx;omega
theorem Rq.ne_neg (h:Rq c Q) (hc:CartanP c) {q:Pr} (hq:q∈Q) {i:Nat} (hi:i<c.length):q.1≠mirR c i (zAE c.length i):=fun e=>by
 have h1:=zBB (h.sh q hq).1 hi;rw [e,zKj hc hi] at h1;have:=(h.nn q hq).1 (-1) (by rw [e]; exact h1);omega
structure PI7 (c:List (List Int)) (Q:List Pr) (k:Nat) (L:List Pr):Prop where
 sub:∀p∈L,p∈Q
 nd:(L.map Prod.fst).Nodup
 un:∀i,i<c.length→zAE c.length i∈L.map Prod.fst
 dn:∀(j:Nat) (p:Pr),j<k→L[j]? = some p→∀i,i<c.length→p.1=zAE c.length i∨mirR c i p.1∈L.map Prod.fst
theorem PI7.len {k:Nat} {L:List Pr} (h:PI7 c Q k L) (hQ:Rq c Q):L.length≤24:=by
 have h1:(L.map Prod.fst).length≤(Q.map Prod.fst).length:=zDF h.nd (fun x hx=>by
  obtain ⟨p,hp,rfl⟩:=List.mem_map.1 hx;exact List.mem_map_of_mem (h.sub p hp))
 have:=hQ.len;simp at h1;omega
theorem zG9 (hQ:Rq c Q) {L:List Pr} {p:Pr} (hs:∀q∈L,q∈Q) (hn:(L.map Prod.fst).Nodup) (hp:p∈Q∨zAk p.1≠1) :
  (∀q∈zBJ L p,q∈Q)∧((zBJ L p).map Prod.fst).Nodup∧(∃l,zBJ L p=L++l∧l.length≤1)∧(p∈Q→p.1∈(zBJ L p).map Prod.fst):=by
 unfold zBJ;by_cases h:p.1∉L.map Prod.fst∧zAk p.1=1∧htR p.1≤12
 ·rw [if_pos h];have hpQ:p∈Q:=hp.elim id (fun e=>absurd h.2.1 e);refine ⟨fun q hq=>?_,?_,⟨[p],rfl,by simp⟩,fun _=>by simp⟩
  ·rcases List.mem_append.1 hq with hq | hq
   ·exact hs q hq
   ·rw [List.mem_singleton] at hq; subst hq; exact hpQ
  ·rw [List.map_append,List.map_cons,List.map_nil];exact List.nodup_append.2 ⟨hn,by simp,fun a ha b hb=>by simp at hb; subst hb; exact fun e=>h.1 (e ▸ ha)⟩
 ·rw [if_neg h];refine ⟨hs,hn,⟨[],by simp,by simp⟩,fun hpQ=>?_⟩;rcases Classical.em (p.1∈L.map Prod.fst) with hm | hm
  ·exact hm
  ·exact absurd ⟨hm,hQ.sign hpQ,(hQ.ht p hpQ).1⟩ h
theorem zJK (hQ:Rq c Q) (hc:CartanP c) {p:Pr} (hp:p∈Q):∀(m:Nat) {L:List Pr},m≤c.length→(∀q∈L,q∈Q)→(L.map Prod.fst).Nodup →
  (∀q∈(List.range m).foldl (zCc c p) L,q∈Q)∧(((List.range m).foldl (zCc c p) L).map Prod.fst).Nodup∧(∃l,(List.range m).foldl (zCc c p) L=L++l) ∧
   ∀i,i<m→p.1=zAE c.length i∨mirR c i p.1∈((List.range m).foldl (zCc c p) L).map Prod.fst
 | 0,L,_,hs,hn=>⟨hs,hn,⟨[],by simp⟩,fun i hi=>by omega⟩
 | m+1,L,hm,hs,hn=>by
  obtain ⟨a1,a2,⟨l,a3⟩,a4⟩:=zJK hQ hc hp m (L:=L) (by omega) hs hn;rw [List.range_succ,List.foldl_append,List.foldl_cons,List.foldl_nil];generalize (List.range m).foldl (zCc c p) L=M at *;have hor:(mirR c m p.1,mirR (trL c) m p.2)∈Q∨zAk (mirR c m p.1)≠1:=by
   rcases hQ.cl p hp m (by omega) with e | e
   ·exact .inr (by rw [e]; exact zDf hc (by omega))
   ·exact .inl e
  obtain ⟨b1,b2,⟨l',b3,_⟩,b4⟩:=zG9 hQ a1 a2 hor;refine ⟨b1,b2,⟨l++l',by show zBJ M _=_; rw [b3,a3,List.append_assoc]⟩,fun i hi=>?_⟩;rcases Nat.lt_or_ge i m with h | h
  ·rcases a4 i h with e | e
   ·exact .inl e
   ·right;show mirR c i p.1∈(zBJ M _).map Prod.fst;rw [b3,List.map_append]; exact List.mem_append_left _ e
  ·have:i=m:=by omega
   subst this;rcases hQ.cl p hp i (by omega) with e | e
   ·exact .inl e
   ·exact .inr (b4 e)
theorem PI7.row (hQ:Rq c Q) (hc:CartanP c) {k:Nat} {L:List Pr} {p:Pr} (h:PI7 c Q k L) (hp:L[k]? = some p):PI7 c Q (k+1) (zFR c p L)∧∃l,zFR c p L=L++l:=by
 obtain ⟨a1,a2,⟨l,a3⟩,a4⟩:=zJK hQ hc (h.sub p (zWH hp)) c.length (zWK _) h.sub h.nd;have e:zFR c p L=L++l:=a3;have hk:=(zWI hp).1;refine ⟨⟨a1,a2,fun i hi=>?_,fun j q hj hq i hi=>?_⟩,l,e⟩
 ·rw [e,List.map_append]; exact List.mem_append_left _ (h.un i hi)
 ·rcases Nat.lt_or_ge j k with hjk | hjk
  ·rw [e,List.getElem?_append_left (by omega)] at hq;rcases h.dn j q hjk hq i hi with e' | e'
   ·exact .inl e'
   ·right; rw [e,List.map_append]; exact List.mem_append_left _ e'
  ·have:j=k:=by omega
   subst this;rw [e,List.getElem?_append_left (by omega),hp] at hq;simp only [Option.some.injEq] at hq;subst hq;exact a4 i hi
theorem zKy {f k:Nat} {L:List Pr} {p:Pr} (h:L[k]? = some p):zCF c (f+1) k L=zCF c f (k+1) (zFR c p L):=by simp only [zCF,h]
theorem zJJ {f k:Nat} {L:List Pr} (h:L.length≤k):zCF c f k L=L:=by
 cases f with
 | zero=>rfl
 | succ f=>simp only [zCF,List.getElem?_eq_none h]
theorem zKz (hQ:Rq c Q) (hc:CartanP c):∀(f k:Nat) {L:List Pr},PI7 c Q k L→25≤f+k→k≤L.length→PI7 c Q (zCF c f k L).length (zCF c f k L)
 | 0,k,L,h,hf,hk=>by have:=h.len hQ; omega
 | f+1,k,L,h,hf,hk=>by
  rcases Nat.lt_or_ge k L.length with hlt | hge
  ·have e:L[k]? = some L[k]:=zWG hlt;rw [zKy e];obtain ⟨h2,l,e2⟩:=h.row hQ hc e;exact zKz hQ hc f (k+1) h2 (by omega) (by rw [e2]; simp; omega)
  ·rw [zJJ hge];have:k=L.length:=by omega
   subst this;exact h
theorem zHT (hQ:Rq c Q):∀m,m≤c.length→(∀q∈(List.range m).foldl (fun L i=>zBJ L (zAE c.length i,zAE c.length i)) [],q∈Q)∧(((List.range m).foldl (fun L i=>zBJ L (zAE c.length i,zAE c.length i)) []).map Prod.fst).Nodup ∧
  (∀i,i<m→zAE c.length i∈((List.range m).foldl (fun L i=>zBJ L (zAE c.length i,zAE c.length i)) []).map Prod.fst)
 | 0,_=>⟨fun q hq=>by simp at hq,by simp,fun i hi=>by omega⟩
 | m+1,hm=>by
  obtain ⟨a1,a2,a4⟩:=zHT hQ m (by omega);rw [List.range_succ,List.foldl_append,List.foldl_cons,List.foldl_nil];generalize (List.range m).foldl (fun L i=>zBJ L (zAE c.length i,zAE c.length i)) []=M at *;have hu:=hQ.unit m (by omega);obtain ⟨b1,b2,⟨l',b3,_⟩,b4⟩:=zG9 hQ a1 a2 (.inl hu);refine ⟨b1,b2,fun i hi=>?_⟩;rcases Nat.lt_or_ge i m with h | h
  ·rw [b3,List.map_append]; exact List.mem_append_left _ (a4 i h)
  ·have:i=m:=by omega
   subst this;exact b4 hu
theorem zKx (hQ:Rq c Q):PI7 c Q 0 (zSj c.length):=by
 obtain ⟨a1,a2,a3⟩:=zHT hQ c.length (zWK _);exact ⟨a1,a2,a3,fun j p hj=>by omega⟩
theorem PI7.all (hQ:Rq c Q) (hc:CartanP c) {L:List Pr} (h:PI7 c Q L.length L):∀(m:Nat) (q:Pr),q∈Q→htR q.1≤m→q.1∈L.map Prod.fst
 | 0,q,hq,hm=>by have:=hQ.pos hq; omega
 | m+1,q,hq,hm=>by
  obtain ⟨i,hi,e | e⟩:=hQ.dn q hq
  ·rw [e]; exact h.un i hi
  ·rcases hQ.cl q hq i hi with e' | e'
   ·rw [e']; exact h.un i hi
   ·have ih:=PI7.all hQ hc h m _ e' (by show htR (mirR c i q.1)≤m; omega);obtain ⟨p,hp,ep⟩:=List.mem_map.1 ih;have ep:p.1=mirR c i q.1:=ep;obtain ⟨j,hj⟩:=List.getElem?_of_mem hp;have hb:=zKh hc hi (hQ.sh q hq).1;rcases h.dn j p (zWI hj).1 hj i hi with e2 | e2
    ·exfalso;rw [<-ep,e2] at hb;exact hQ.ne_neg hc hq hi hb.symm
    ·rw [ep,hb] at e2; exact e2
theorem zJG {α β:Type} {f:α→β} {l:List α} (h:(l.map f).Nodup):l.Nodup:=by
 induction l with
 | nil=>exact List.nodup_nil
 | cons a l ih =>
  rw [List.map_cons,List.nodup_cons] at h;exact List.nodup_cons.2 ⟨fun hm=>h.1 (List.mem_map_of_mem hm),ih h.2⟩
theorem zLq (hQ:Rq c Q) (hc:CartanP c):(zCO c).Perm Q:=by
 have h:=zKz hQ hc 40 0 (zKx hQ) (by omega) (Nat.zero_le _);have h:PI7 c Q (zCO c).length (zCO c):=h;generalize zCO c=L at *;have hnd:L.Nodup:=zJG h.nd;have hndQ:Q.Nodup:=zJG hQ.nd;have hall:∀q∈Q,q∈L:=fun q hq=>by
  have:=h.all hQ hc 12 q hq (hQ.ht q hq).1;obtain ⟨p,hp,e⟩:=List.mem_map.1 this;have:=hQ.fn (h.sub p hp) hq e;subst this; exact hp
 exact zEg hnd h.sub (zDF hndQ hall)
theorem zCv (a:List Int):befR a a=false:=by unfold befR; rw [if_pos rfl]; exact zCk a
theorem zIT {a b:List Int} (h:befR a b=true):htR a≤htR b:=by
 unfold befR at h;split at h
 ·omega
 ·have:=of_decide_eq_true h; omega
theorem zSq {a b:List Int} (h:htR b<htR a):befR a b=false:=by unfold befR; rw [if_neg (by omega)]; exact decide_eq_false (by omega)
theorem zCq {a b d:List Int} (h:befR a b=true) (k:befR b d=true):befR a d=true:=by
 have h1:=zIT h;have h2:=zIT k;unfold befR at *;by_cases e1:htR a=htR b
 ·by_cases e2:htR b=htR d
  ·rw [if_pos e1] at h; rw [if_pos e2] at k;rw [if_pos (by omega)]; exact zCK h k
  ·rw [if_neg (by omega)]; exact decide_eq_true (by omega)
 ·rw [if_neg (by omega)]; exact decide_eq_true (by omega)
theorem zDk {a b:List Int} (hl:a.length=b.length) (hne:a≠b):befR a b=true∨befR b a=true:=by
 unfold befR;by_cases e:htR a=htR b
 ·rw [if_pos e,if_pos e.symm]; exact zCl hl hne
 ·rw [if_neg e,if_neg (fun h=>e h.symm)];rcases Int.lt_or_gt_of_ne e with h | h
  ·exact .inl (decide_eq_true h)
  ·exact .inr (decide_eq_true h)
theorem zB6 {r x:List Int}:∀{l:List (List Int)},x∈put7 r l↔x=r∨x∈l
 | []=>by simp [put7]
 | y::l=>by
  unfold put7;split
  ·simp
  ·rw [List.mem_cons,zB6,List.mem_cons];constructor
   ·rintro (h | h | h)
    ·exact .inr (.inl h)
    ·exact .inl h
    ·exact .inr (.inr h)
   ·rintro (h | h | h)
    ·exact .inr (.inl h)
    ·exact .inl h
    ·exact .inr (.inr h)
theorem zCD (r:List Int):∀l:List (List Int),(put7 r l).length=l.length+1
 | []=>rfl
 | x::l=>by
  unfold put7;split
  ·rfl
  ·simp [zCD r l]
abbrev SrtR (l:List (List Int)):Prop:=l.Pairwise fun a b=>befR a b=true
theorem zHV {n:Nat} {r:List Int} (hr:r.length=n):∀{l:List (List Int)},SrtR l→r∉l→(∀x∈l,x.length=n)→SrtR (put7 r l)
 | [],_,_,_=>List.pairwise_singleton _ _
 | x::l,h,hn,hl=>by
  have hc:=List.pairwise_cons.1 h;unfold put7;split
  ·rename_i hb
   refine List.pairwise_cons.2 ⟨fun y hy=>?_,h⟩;rcases List.mem_cons.1 hy with rfl | hy
   ·exact hb
   ·exact zCq hb (hc.1 y hy)
  ·rename_i hb
   have ih:=zHV hr hc.2 (fun e=>hn (List.mem_cons_of_mem _ e)) (fun y hy=>hl y (List.mem_cons_of_mem _ hy));refine List.pairwise_cons.2 ⟨fun y hy=>?_,ih⟩;rcases zB6.1 hy with rfl | hy
   ·rcases zDk (a:=y) (b:=x) (by rw [hr,hl x (List.mem_cons_self ..)]) (fun e=>hn (by rw [e]; exact List.mem_cons_self ..)) with h1 | h1
    ·exact absurd h1 hb
    ·exact h1
   ·exact hc.1 y hy
theorem zK5 {r x:List Int}:∀{l:List (List Int)} {k:Nat},SrtR l→l[k]? = some x→htR x<htR r→∀j,j≤k→(put7 r l)[j]? = l[j]?
 | [],k,_,h,_=>by simp at h
 | y::l,k,hs,h,hx=>fun j hj=>by
  have hc:=List.pairwise_cons.1 hs;have hy:htR y≤htR x:=by
   cases k with
   | zero=>simp at h; subst h; omega
   | succ k=>exact zIT (hc.1 x (zWH (by simpa using h)))
  unfold put7;rw [if_neg (by rw [zSq (by omega)]; simp)];cases j with
  | zero=>rfl
  | succ j =>
   cases k with
   | zero=>omega
   | succ k =>
    simp only [List.getElem?_cons_succ];exact zK5 hc.2 (by simpa using h) hx j (by omega)
structure SI7 (c:List (List Int)) (Q:List Pr) (k:Nat) (S:List (List Int)):Prop where
 sub:∀r∈S,r∈Q.map Prod.fst
 srt:SrtR S
 un:∀i,i<c.length→zAE c.length i∈S
 dn:∀(j:Nat) (r:List Int),j<k→S[j]? = some r→∀i,i<c.length→zAk (mirR c i r)=1→htR (mirR c i r)≤12→htR r<htR (mirR c i r)→mirR c i r∈S
theorem SrtR.nodup {l:List (List Int)} (h:SrtR l):l.Nodup:=by
 refine List.Pairwise.imp (fun {a b} hab e=>?_) h;rw [e,zCv] at hab; cases hab
theorem zMw (hQ:Rq c Q) {S:List (List Int)} (h:∀r∈S,r∈Q.map Prod.fst):∀r∈S,r.length=c.length:=fun r hr=>by
 obtain ⟨p,hp,rfl⟩:=List.mem_map.1 (h r hr);exact (hQ.sh p hp).1
theorem SI7.len {k:Nat} {S:List (List Int)} (h:SI7 c Q k S) (hQ:Rq c Q):S.length≤24:=by
 have h1:=zDF h.srt.nodup h.sub;have:=hQ.len;simp at h1;omega
theorem zLJ (hQ:Rq c Q) (hc:CartanP c) {k:Nat} {S:List (List Int)} {r:List Int} (hr:S[k]? = some r) (hs:∀r∈S,r∈Q.map Prod.fst) (ht:SrtR S) {i:Nat} (hi:i<c.length) :
  (∀r∈zAz c k S i,r∈Q.map Prod.fst)∧SrtR (zAz c k S i)∧(∀x∈S,x∈zAz c k S i)∧(∀j,j≤k→(zAz c k S i)[j]? = S[j]?)∧S.length≤(zAz c k S i).length∧(zAz c k S i).length≤S.length+1 ∧
   (zAk (mirR c i r)=1→htR (mirR c i r)≤12→htR r<htR (mirR c i r)→mirR c i r∈zAz c k S i):=by
 have e:rwL S k=r:=by unfold rwL; rw [hr]; rfl
 unfold zAz;rw [e];split
 ·rename_i h
  obtain ⟨h1,h2,h3,h4⟩:=h;obtain ⟨p,hp,ep⟩:=List.mem_map.1 (hs r (zWH hr));have hm:mirR c i r∈Q.map Prod.fst:=by
   rcases hQ.cl p hp i hi with e | e
   ·exfalso;rw [ep] at e;rw [e] at h1;exact zDf hc hi h1
   ·exact List.mem_map.2 ⟨_,e,by show mirR c i p.1=_; rw [ep]⟩
  refine ⟨fun x hx=>?_,zHV (n:=c.length) (by rw [zBX]; exact zMw hQ hs r (zWH hr)) ht h3 (zMw hQ hs),fun x hx=>zB6.2 (.inr hx),zK5 ht hr h4,by rw [zCD]; omega,by rw [zCD]; omega,fun _ _ _=>zB6.2 (.inl rfl)⟩;rcases zB6.1 hx with rfl | hx
  ·exact hm
  ·exact hs x hx
 ·rename_i h
  refine ⟨hs,ht,fun x hx=>hx,fun _ _=>rfl,zWK _,Nat.le_succ _,fun h1 h2 h3=>?_⟩;rcases Classical.em (mirR c i r∈S) with hm | hm
  ·exact hm
  ·exact absurd ⟨h1,h2,hm,h3⟩ h
theorem zLI (hQ:Rq c Q) (hc:CartanP c) {k:Nat} {r:List Int}:∀(m:Nat) {S:List (List Int)},m≤c.length→S[k]? = some r→(∀r∈S,r∈Q.map Prod.fst)→SrtR S →
  (∀r∈(List.range m).foldl (zAz c k) S,r∈Q.map Prod.fst)∧SrtR ((List.range m).foldl (zAz c k) S)∧(∀x∈S,x∈(List.range m).foldl (zAz c k) S)∧(∀j,j≤k→((List.range m).foldl (zAz c k) S)[j]? = S[j]?)∧S.length≤((List.range m).foldl (zAz c k) S).length ∧
   ∀i,i<m→zAk (mirR c i r)=1→htR (mirR c i r)≤12→htR r<htR (mirR c i r)→mirR c i r∈(List.range m).foldl (zAz c k) S
 | 0,S,_,_,hs,ht=>⟨hs,ht,fun x hx=>hx,fun _ _=>rfl,zWK _,fun i hi=>by omega⟩
 | m+1,S,hm,hr,hs,ht=>by
  obtain ⟨a1,a2,a3,a4,a5,a6⟩:=zLI hQ hc m (S:=S) (by omega) hr hs ht;rw [List.range_succ,List.foldl_append,List.foldl_cons,List.foldl_nil];generalize (List.range m).foldl (zAz c k) S=M at *;obtain ⟨b1,b2,b3,b4,b5,_,b6⟩:=zLJ hQ hc (by rw [a4 k (zWK _)]; exact hr) a1 a2 (i:=m) (by omega);refine ⟨b1,b2,fun x hx=>b3 x (a3 x hx),fun j hj=>(b4 j hj).trans (a4 j hj),Nat.le_trans a5 b5,fun i hi=>?_⟩;rcases Nat.lt_or_ge i m with h | h
  ·exact fun h1 h2 h3=>b3 _ (a6 i h h1 h2 h3)
  ·have:i=m:=by omega
   subst this;exact b6
theorem SI7.row (hQ:Rq c Q) (hc:CartanP c) {k:Nat} {S:List (List Int)} (h:SI7 c Q k S) (hk:k<S.length):SI7 c Q (k+1) (sRow c k S)∧S.length≤(sRow c k S).length:=by
 have hr:S[k]? = some S[k]:=zWG hk;obtain ⟨a1,a2,a3,a4,a5,a6⟩:=zLI hQ hc c.length (zWK _) hr h.sub h.srt;refine ⟨⟨a1,a2,fun i hi=>a3 _ (h.un i hi),fun j x hj hx i hi h1 h2 h3=>?_⟩,a5⟩;have hx2:S[j]? = some x:=by rw [<-a4 j (by omega)]; exact hx
 clear hx;have hx:=hx2;rcases Nat.lt_or_ge j k with hjk | hjk
 ·exact a3 _ (h.dn j x hjk hx i hi h1 h2 h3)
 ·have:j=k:=by omega
  subst this;rw [hr] at hx;simp only [Option.some.injEq] at hx;subst hx;exact a6 i hi h1 h2 h3
theorem zMn (hQ:Rq c Q) (hc:CartanP c):∀(f k:Nat) {S:List (List Int)},SI7 c Q k S→25≤f+k→k≤S.length→SI7 c Q (sBfs c f k S).length (sBfs c f k S)
 | 0,k,S,h,hf,hk=>by have:=h.len hQ; omega
 | f+1,k,S,h,hf,hk=>by
  unfold sBfs;split
  ·have:k=S.length:=by omega
   subst this;exact h
  ·obtain ⟨h2,h3⟩:=h.row hQ hc (by omega);exact zMn hQ hc f (k+1) h2 (by omega) (by omega)
theorem zSK {n i j:Nat} (hi:i<n) (hj:j<n) (e:zAE n i=zAE n j):i=j:=by
 have h1:=zDY hi hi;rw [e,zDY hj hi] at h1;by_cases h:i=j
 ·exact h
 ·rw [if_neg h] at h1; simp at h1
theorem zHY (hQ:Rq c Q):∀m,m≤c.length→(∀x,x∈(List.range m).foldl (fun o i=>put7 (zAE c.length i) o) []↔∃i,i<m∧x=zAE c.length i)∧SrtR ((List.range m).foldl (fun o i=>put7 (zAE c.length i) o) [])∧((List.range m).foldl (fun o i=>put7 (zAE c.length i) o) []).length=m
 | 0,_=>⟨fun x=>by simp,List.Pairwise.nil,rfl⟩
 | m+1,hm=>by
  obtain ⟨a1,a2,a3⟩:=zHY hQ m (by omega);rw [List.range_succ,List.foldl_append,List.foldl_cons,List.foldl_nil];generalize (List.range m).foldl (fun o i=>put7 (zAE c.length i) o) []=M at *;refine ⟨fun x=>?_,zHV (n:=c.length) (zA4 _ _) a2 (fun hm'=>?_) (fun x hx=>?_),by rw [zCD,a3]⟩
  ·rw [zB6,a1];constructor
   ·rintro (rfl | ⟨i,hi,rfl⟩)
    ·exact ⟨m,by omega,rfl⟩
    ·exact ⟨i,by omega,rfl⟩
   ·rintro ⟨i,hi,rfl⟩;rcases Nat.lt_or_ge i m with h | h
    ·exact .inr ⟨i,h,rfl⟩
    ·have:i=m:=by omega
     subst this; exact .inl rfl
  ·obtain ⟨i,hi,e⟩:=(a1 _).1 hm';have:=zSK (n:=c.length) (by omega) (by omega) e;omega
  ·obtain ⟨i,_,rfl⟩:=(a1 x).1 hx;exact zA4 _ _
theorem zMm (hQ:Rq c Q):SI7 c Q 0 (sBeg c.length):=by
 obtain ⟨a1,a2,_⟩:=zHY hQ c.length (zWK _);refine ⟨fun r hr=>?_,a2,fun i hi=>(a1 _).2 ⟨i,hi,rfl⟩,fun j r hj=>by omega⟩;obtain ⟨i,hi,rfl⟩:=(a1 r).1 hr;exact List.mem_map.2 ⟨_,hQ.unit i hi,rfl⟩
theorem SI7.all (hQ:Rq c Q) (hc:CartanP c) {S:List (List Int)} (h:SI7 c Q S.length S):∀(m:Nat) (q:Pr),q∈Q→htR q.1≤m→q.1∈S
 | 0,q,hq,hm=>by have:=hQ.pos hq; omega
 | m+1,q,hq,hm=>by
  obtain ⟨i,hi,e | e⟩:=hQ.dn q hq
  ·rw [e]; exact h.un i hi
  ·rcases hQ.cl q hq i hi with e' | e'
   ·rw [e']; exact h.un i hi
   ·have ih:=SI7.all hQ hc h m _ e' (by show htR (mirR c i q.1)≤m; omega);obtain ⟨j,hj⟩:=List.getElem?_of_mem ih;have hj:S[j]? = some (mirR c i q.1):=hj;have hb:=zKh hc hi (hQ.sh q hq).1;have:=h.dn j _ (zWI hj).1 hj i hi;rw [hb] at this;exact this (hQ.sign hq) (hQ.ht q hq).1 e
theorem zCP (hQ:Rq c Q) (hc:CartanP c):SrtR (zAT c)∧∀r,r∈zAT c↔r∈Q.map Prod.fst:=by
 have h:=zMn hQ hc 40 0 (zMm hQ) (by omega) (Nat.zero_le _);have h:SI7 c Q (zAT c).length (zAT c):=h;refine ⟨h.srt,fun r=>⟨h.sub r,fun hr=>?_⟩⟩;obtain ⟨q,hq,rfl⟩:=List.mem_map.1 hr;exact h.all hQ hc 12 q hq (hQ.ht q hq).1
theorem zMu:∀{l m:List (List Int)},SrtR l→SrtR m→(∀x,x∈l↔x∈m)→l=m
 | [],[],_,_,_=>rfl
 | [],y::m,_,_,h=>by have:=(h y).2 (List.mem_cons_self ..); simp at this
 | x::l,[],_,_,h=>by have:=(h x).1 (List.mem_cons_self ..); simp at this
 | x::l,y::m,hl,hm,h=>by
  have c1:=List.pairwise_cons.1 hl;have c2:=List.pairwise_cons.1 hm;have e:x=y:=by
   rcases List.mem_cons.1 ((h x).1 (List.mem_cons_self ..)) with e | e
   ·exact e
   ·rcases List.mem_cons.1 ((h y).2 (List.mem_cons_self ..)) with e' | e'
    ·exact e'.symm
    ·have:=zCq (c1.1 y e') (c2.1 x e);rw [zCv] at this; cases this
  subst e;have nx:x∉l:=fun hx=>by have:=c1.1 x hx; rw [zCv] at this; cases this
  have ny:x∉m:=fun hx=>by have:=c2.1 x hx; rw [zCv] at this; cases this
  rw [zMu c1.2 c2.2 (fun z=>?_)];constructor
  ·intro hz;rcases List.mem_cons.1 ((h z).1 (List.mem_cons_of_mem _ hz)) with rfl | e
   ·exact absurd hz nx
   ·exact e
  ·intro hz;rcases List.mem_cons.1 ((h z).2 (List.mem_cons_of_mem _ hz)) with rfl | e
   ·exact absurd hz ny
   ·exact e
theorem zVX (hQ:Rq c Q) (_hc:CartanP c) {q:Pr} (hq:q∈Q) (h:htR q.1=1):∃i,i<c.length∧q.1=zAE c.length i:=by
 obtain ⟨i,hi,e | e⟩:=hQ.dn q hq
 ·exact ⟨i,hi,e⟩
 ·rcases hQ.cl q hq i hi with e' | e'
  ·exact ⟨i,hi,e'⟩
  ·exfalso;have:=hQ.pos e';have h2:0<htR (mirR c i q.1):=this;omega
theorem zFC (hQ:Rq c Q) (hc:CartanP c):∀(f:Nat) (q:Pr),q∈Q→htR q.1≤f→(zAV c f q.1).1.foldr (fun i x=>mirR (trL c) i x) (zAV c f q.1).2=q.2
 | 0,q,hq,hf=>by have:=hQ.pos hq; omega
 | f+1,q,hq,hf=>by
  simp only [zAV];have hex:∃i,i<c.length∧htR (mirR c i q.1)<htR q.1:=by
   obtain ⟨i,hi,e | e⟩:=hQ.dn q hq
   ·refine ⟨i,hi,?_⟩;rw [zO3 (by rw [(hQ.sh q hq).1]; exact hi),e,zCz hi,zCx (zFZ hc hi).1 (zA4 _ _),Cox.dotN_congr (h:=Cox.e i) (fun k hk=>by rw [zDY hi hk]; rfl),Cox.dotN_e _ _ _ hi,(zFZ hc hi).2 i hi,hc.car.diag i hi];omega
   ·exact ⟨i,hi,e⟩
  cases e:(List.range c.length).find? (fun i=>decide (htR (mirR c i q.1)<htR q.1)) with
  | none =>
   exfalso;obtain ⟨i,hi,h⟩:=hex;have:=List.find?_eq_none.1 e i (List.mem_range.2 hi);simp [h] at this
  | some i =>
   have hi:i<c.length:=List.mem_range.1 (List.mem_of_find?_eq_some e);have hlt:htR (mirR c i q.1)<htR q.1:=by have:=List.find?_some e; simpa using this
   by_cases h1:htR q.1=1
   ·simp only [if_pos h1,List.foldr_nil];obtain ⟨j,hj,ej⟩:=zVX hQ hc hq h1;have:=hQ.fn hq (hQ.unit j hj) ej;rw [this]
   ·simp only [if_neg h1,List.foldr_cons];rcases hQ.cl q hq i hi with e' | e'
    ·exfalso; rw [e',zCz hi] at h1; exact h1 rfl
    ·have ih:=zFC hQ hc f _ e' (by show htR (mirR c i q.1)≤f; omega);have ih:(zAV c f (mirR c i q.1)).1.foldr (fun i x=>mirR (trL c) i x) (zAV c f (mirR c i q.1)).2=mirR (trL c) i q.2:=ih;rw [ih,zPF hc hi (hQ.sh q hq).2]
theorem zHK (hQ:Rq c Q) (hc:CartanP c) {q:Pr} (hq:q∈Q):zAZ c q.1=q.2:=zFC hQ hc 30 q hq (by have:=(hQ.ht q hq).1; omega)
theorem zLQ (hQ:Rq c Q) (hc:CartanP c) {P:List Pr} (hp:P.Perm (zCO c)) (hs:P.Pairwise fun a b=>befR b.1 a.1=false):P.map Prod.fst=zAT c∧P.map Prod.snd=(zAT c).map (zAZ c):=by
 have hpQ:=hp.trans (zLq hQ hc);obtain ⟨h1,h2⟩:=zCP hQ hc;have hnd:(P.map Prod.fst).Nodup:=(hpQ.map Prod.fst).nodup_iff.2 hQ.nd;have hsr:SrtR (P.map Prod.fst):=by
  have hs':(P.map Prod.fst).Pairwise fun a b=>befR b a=false:=List.pairwise_map.2 hs;have hb:=List.pairwise_and_iff.2 ⟨hs',hnd⟩;refine List.Pairwise.imp_of_mem (fun {a b} ha hb' h=>?_) hb;obtain ⟨p,hp',rfl⟩:=List.mem_map.1 ha;obtain ⟨q,hq',rfl⟩:=List.mem_map.1 hb';rcases zDk (a:=p.1) (b:=q.1) (by rw [(hQ.sh p (hpQ.mem_iff.1 hp')).1,(hQ.sh q (hpQ.mem_iff.1 hq')).1]) h.2 with e | e
  ·exact e
  ·rw [e] at h; exact absurd h.1 (by simp)
 have e1:P.map Prod.fst=zAT c:=zMu hsr h1 (fun x=>by rw [(hpQ.map Prod.fst).mem_iff,h2]);refine ⟨e1,?_⟩;rw [<-e1,List.map_map];exact List.map_congr_left fun p hp'=>(zHK hQ hc (hpQ.mem_iff.1 hp')).symm
theorem zUG (hQ:Rq c Q) (hc:CartanP c) {r:List Int} (hr:r∈zAT c):r.length=c.length∧(zAZ c r).length=c.length∧(∀x∈r,0≤x∧x≤12)∧(∀x∈zAZ c r,0≤x∧x≤12)∧0<htR r∧htR r≤12∧htR (zAZ c r)≤12:=by
 obtain ⟨q,hq,rfl⟩:=List.mem_map.1 ((zCP hQ hc).2 r |>.1 hr);rw [zHK hQ hc hq];have h1:=hQ.ht q hq;have h2:=hQ.nn q hq;have h3:=zA3 h2.1;have h4:=zA3 h2.2;unfold htR at *;exact ⟨(hQ.sh q hq).1,(hQ.sh q hq).2,fun x hx=>⟨h2.1 x hx,by have:=h3.2 x hx; omega⟩,fun x hx=>⟨h2.2 x hx,by have:=h4.2 x hx; omega⟩,hQ.pos hq,h1.1,h1.2⟩
theorem zFY (hQ:Rq c Q) (hc:CartanP c):(zAT c).length≤24:=by
 obtain ⟨h1,h2⟩:=zCP hQ hc;have h3:=zDF h1.nodup (fun x hx=>(h2 x).1 hx);have h4:=hQ.len;rw [List.length_map] at h3;omega
end
end Go.Proofs.YtphbichgpcicnaaGreatDoor
