/- Polynomials shifted and scaled. Plain. No condition. -/
import Derived.Test.YtlgcdacpjcnjgaaGreatDoorJGColl
namespace Go.Proofs.YtlgcdacpjcnjgaaGreatDoor
open Go.RowKit
set_option maxRecDepth 20000
theorem zEO (p:List Int) (h k:Nat):num (zAQ p h) k=if k<h then 0 else num p (k-h):=by
 unfold zAQ;by_cases h0:p.length=0
 ·have:p=[]:=List.eq_nil_of_length_eq_zero h0;subst this;rw [if_pos (show ([]:List Int).length=0 from rfl),zB5];simp [num]
 ·rw [if_neg h0,zB5];unfold num;by_cases hk:k<h
  ·rw [if_pos hk,List.getElem?_append_left (by simpa using hk),List.getElem?_replicate,if_pos hk]; rfl
  ·rw [if_neg hk,List.getElem?_append_right (by simp; omega),List.length_replicate]
theorem zGo (p:List Int) (h:Nat):Trd (zAQ p h):=by
 unfold zAQ;split
 ·exact zDg _
 ·exact zDg _
theorem zBL (p:List Int) (h:Nat):(zAQ p h).length≤p.length+h:=by
 unfold zAQ;split
 ·have:=zDO p; omega
 ·have:=zDO (List.replicate h 0++p);simp at this;omega
theorem zJR {p:List Int} (hi:InI p) (h:Nat):InI (zAQ p h):=by
 unfold zAQ;split
 ·exact fun x hx=>hi x (zEZ hx)
 ·intro x hx;rcases List.mem_append.1 (zEZ hx) with h' | h'
  ·have:=List.eq_of_mem_replicate h'; omega
  ·exact hi x h'
theorem zLi (h:Nat):zAQ [] h=[]:=rfl
def shK (p:List Int) (h:Nat):List Int:=if trim p=[] then [] else List.replicate h 0++trim p
theorem zSl (p:List Int) (h:Nat):shK p h=zAQ p h:=by
 refine zHB ?_ (zGo p h) fun k=>?_
 ·unfold shK;by_cases h0:trim p=[]
  ·rw [if_pos h0]; exact .inl rfl
  ·rw [if_neg h0];refine .inr ?_;rcases zDg p with h1 | h1
   ·exact absurd h1 h0
   ·have hl:0<(trim p).length:=List.length_pos_iff.2 h0;unfold num at *;rw [List.getElem?_append_right (by simp; omega)];simp only [List.length_append,List.length_replicate];rw [show h+(trim p).length-1-h=(trim p).length-1 by omega];exact h1
 ·rw [zEO];unfold shK;by_cases h0:trim p=[]
  ·rw [if_pos h0];have:num p (k-h)=0:=by rw [<-zB5,h0]; simp [num]
   rw [this];simp [num]
  ·rw [if_neg h0];by_cases hk:k<h
   ·rw [if_pos hk];unfold num;rw [List.getElem?_append_left (by simpa using hk),List.getElem?_replicate,if_pos hk]; rfl
   ·rw [if_neg hk,<-zB5 p];unfold num;rw [List.getElem?_append_right (by simp; omega),List.length_replicate]
theorem zCH:wrap64 0=0:=by unfold wrap64; omega
theorem zKn {l:List Int} {i k:Nat} {x:Int} (hi:i<l.length):num (l.set i x) k=if k=i then x else num l k:=by
 unfold num;by_cases h:k=i
 ·subst h; rw [if_pos rfl,List.getElem?_set_self hi]; rfl
 ·rw [if_neg h,List.getElem?_set_ne (fun e=>h e.symm)]
theorem zHn (n k:Nat):num (List.replicate n (0:Int)) k=0:=by
 unfold num;rw [List.getElem?_replicate];split <;> rfl
theorem zHl (q:List Int) (m:Int):∀i,i≤q.length→∀k,num (zAV q [m] i) k=if k<i then wrap64 (num q k*m) else 0
 | 0,_,k=>by unfold zAV; rw [zHn,if_neg (by omega)]
 | i+1,hi,k=>by
  have ih:=zHl q m i (by omega);unfold zAV;show num (zAe q [m] i (zAV q [m] i) 1) k=_;unfold zAe zAe;rw [Nat.add_zero,zKn (by rw [zBo]; simp; omega),ih i,if_neg (Nat.lt_irrefl i),ih k];have e:num [m] 0=m:=rfl;rw [e];by_cases h:k=i
  ·subst h;rw [if_pos rfl,if_pos (by omega)];unfold wrap64; omega
  ·rw [if_neg h];by_cases h2:k<i
   ·rw [if_pos h2,if_pos (by omega)]
   ·rw [if_neg h2,if_neg (by omega)]
theorem zGU (q:List Int) (m:Int) (O:List Int):∀j,j≤q.length→q.length≤O.length→∀k,num (zAe [m] q 0 O j) k=if k<j then wrap64 (num O k+wrap64 (m*num q k)) else num O k
 | 0,_,_,k=>by unfold zAe; rw [if_neg (by omega)]
 | j+1,hj,hO,k=>by
  have ih:=zGU q m O j (by omega) hO;unfold zAe;rw [Nat.zero_add,zKn (by rw [zCb]; omega),ih j,if_neg (Nat.lt_irrefl j),ih k];have e:num [m] 0=m:=rfl;rw [e];by_cases h:k=j
  ·subst h;rw [if_pos rfl,if_pos (by omega)]
  ·rw [if_neg h];by_cases h2:k<j
   ·rw [if_pos h2,if_pos (by omega)]
   ·rw [if_neg h2,if_neg (by omega)]
theorem zM3 {q:List Int} (m:Int) (hl:q.length≤61) (k:Nat):num (mulP q [m]) k=wrap64 (num q k*m):=by
 unfold mulP;by_cases h0:q.length=0
 ·have:q=[]:=List.eq_nil_of_length_eq_zero h0;subst this;rw [if_pos (.inl rfl)];simp [num,zCH]
 ·rw [if_neg (fun h=>h.elim h0 fun h=>h.elim (by simp) (by intro h; simp at h; omega)),zB5,zHl q m _ (zTI _)];by_cases hk:k<q.length
  ·rw [if_pos hk]
  ·rw [if_neg hk,zBa (by omega)];simp [zCH]
theorem zM2 {q:List Int} (m:Int) (hl:q.length≤61) (k:Nat):num (mulP [m] q) k=wrap64 (num q k*m):=by
 unfold mulP;by_cases h0:q.length=0
 ·have:q=[]:=List.eq_nil_of_length_eq_zero h0;subst this;rw [if_pos (.inr (.inl rfl))];simp [num,zCH]
 ·rw [if_neg (fun h=>h.elim (by simp) fun h=>h.elim h0 (by intro h; simp at h; omega)),zB5];show num (zAe [m] q 0 (List.replicate ([m].length+q.length-1) 0) q.length) k=_;rw [zGU q m _ _ (zTI _) (by simp),zHn];by_cases hk:k<q.length
  ·rw [if_pos hk,Int.mul_comm];unfold wrap64; omega
  ·rw [if_neg hk,zBa (by omega)];simp [zCH]
theorem zJv {q:List Int} (m:Int) (h:Nat) (hl:q.length+h≤61):zAQ (mulP q [m]) h=mulP [m] (zAQ q h):=by
 refine zHB (zGo _ _) (zKi _ _).1 fun k=>?_;have:=zBL q h;rw [zEO,zM2 m (by omega),zEO];by_cases hk:k<h
 ·rw [if_pos hk,if_pos hk]; simp [zCH]
 ·rw [if_neg hk,if_neg hk,zM3 m (by omega)]
theorem zO5 (b:List Int):mulP [] b=[]:=by unfold mulP; rw [if_pos (.inl rfl)]
theorem zDb (q:List Int) (m:Int):(mulP q [m]).length≤q.length:=by
 unfold mulP;split
 ·simp
 ·have:=zDO (zAV q [m] q.length);rw [zBo] at this;simp at this ⊢;omega
theorem zFr {p:List Int} (h:Trd p) (hi:InI p):addP p []=p:=by
 refine zHB (zEY _ _) h fun k=>?_;rw [zPD];have e:num [] k=0:=by simp [num]
 rw [e,Int.add_zero];have:=hi.num k;unfold wrap64; omega
theorem zPd {p:List Int} (h:Trd p) (hi:InI p):subP p []=p:=zFr h hi
def lenE (E:List (List Int)) (n:Nat):Nat:=((E[n]?).getD []).length
def hdE (E:List (List Int)) (n:Nat):Nat:=(num ((E[n]?).getD []) 0).toNat
def muS (p:List Int) (d:Int):Int:=if d<0∨d % 2=0∨p.length≤((d-1) / 2).toNat then 0 else num p ((d-1) / 2).toNat
def muI (p:List Int) (d:Int):Int:=if d≤0∨d % 2=0∨p.length≤((d-1) / 2).toNat then 0 else num p ((d-1) / 2).toNat
theorem zG0 (p:List Int) {d:Int}:muI p d=muS p d:=by
 unfold muI muS;by_cases h:d=0
 ·subst h; rw [if_pos (.inl (by omega)),if_pos (.inr (.inl rfl))]
 ·by_cases h2:d<0
  ·rw [if_pos (.inl (by omega)),if_pos (.inl h2)]
  ·by_cases h3:d % 2=0∨p.length≤((d-1) / 2).toNat
   ·rw [if_pos (.inr h3),if_pos (.inr h3)]
   ·rw [if_neg (fun h=>h.elim (by omega) h3),if_neg (fun h=>h.elim (by omega) h3)]
theorem zDL (p:List Int) {d:Int} (h:d≤0):muI p d=0:=by unfold muI; rw [if_pos (.inl h)]
section
variable (E:List (List Int)) (tab:Nat→Nat→Nat)
def zAA (R:List (List (List Int))) (v u:Nat):List Int:=(((R[v]?).getD [])[u]?).getD []
def zAE (P:Nat→Nat→List Int) (k s u:Nat):List Int :=
 if lenE E (tab u s)<lenE E u then addP (P k (tab u s)) (zAQ (P k u) 1) else addP (zAQ (P k (tab u s)) 1) (P k u)
def klZ (P:Nat→Nat→List Int) (n k s u:Nat) (p:List Int) (z:Nat):List Int :=
 if muS (P k z) ((lenE E k:Int)-lenE E z)≠0∧lenE E (tab z s)<lenE E z then subP p (zAQ (mulP (P z u) [muS (P k z) ((lenE E k:Int)-lenE E z)]) ((lenE E n-lenE E z) / 2)) else p
def zAz (P:Nat→Nat→List Int) (n u:Nat):List Int :=
 (List.range (tab n (hdE E n))).foldl (klZ E tab P n (tab n (hdE E n)) (hdE E n) u) (zAE E tab P (tab n (hdE E n)) (hdE E n) u)
def rowS (P:Nat→Nat→List Int) (n u:Nat):List Int:=if n=0 then (if u=0 then [1] else []) else zAz E tab P n u
def rws:Nat→List (List (List Int))
 | 0=>[]
 | n+1=>rws n++[(List.range E.length).map (rowS E tab (zAA (rws n)) n)]
def klY (P:Nat→Nat→List Int) (n k s u:Nat) (p:List Int) (z:Nat):List Int :=
 if muI (P k z) ((lenE E k:Int)-lenE E z)≠0∧lenE E (tab z s)<lenE E z then subP p (mulP [muI (P k z) ((lenE E k:Int)-lenE E z)] (zAQ (P z u) ((lenE E n-lenE E z) / 2))) else p
def zA4 (P:Nat→Nat→List Int) (v u:Nat):List Int :=
 if u=v then [1] else if lenE E v≤lenE E u then [] else
  (List.range E.length).foldl (klY E tab P v (tab v (hdE E v)) (hdE E v) u) (zAE E tab P (tab v (hdE E v)) (hdE E v) u)
def cws:Nat→List (List (List Int))
 | 0=>[]
 | n+1=>cws n++[(List.range E.length).map (zA4 E tab (zAA (cws n)) n)]
structure TabOk (r:Nat):Prop where
 few:E.length≤24
 srt:∀i j,i≤j→j<E.length→lenE E i≤lenE E j
 one:lenE E 0=0
 pos:∀i,0<i→i<E.length→0<lenE E i
 deep:∀i,lenE E i≤24
 lt:∀z i,z<E.length→i<r→tab z i<E.length
 inv:∀z i,z<E.length→i<r→tab (tab z i) i=z
 ud:∀z i,z<E.length→i<r→lenE E (tab z i)=lenE E z+1∨lenE E (tab z i)+1=lenE E z
 hd:∀n,0<n→n<E.length→hdE E n<r∧lenE E (tab n (hdE E n))+1=lenE E n
structure RowsOk (R:List (List (List Int))) (n:Nat):Prop where
 trd:∀v u,Trd (zAA R v u)
 ini:∀v u,InI (zAA R v u)
 len:∀v u,(zAA R v u).length≤lenE E v+1
 self:∀v,v<n→zAA R v v=[1]
 out:∀v u,v<n→u<E.length→u≠v→lenE E v≤lenE E u→zAA R v u=[]
end
section
variable {E:List (List Int)} {tab:Nat→Nat→Nat} {r:Nat} {R:List (List (List Int))} {n:Nat}
theorem zMl {v u:Nat} (h:R.length≤v):zAA R v u=[]:=by unfold zAA; rw [List.getElem?_eq_none h]; rfl
theorem zHf {L:List (List Int)} {v u:Nat} (h:v<R.length):zAA (R++[L]) v u=zAA R v u:=by unfold zAA; rw [List.getElem?_append_left h]
theorem zMk {L:List (List Int)} {u:Nat}:zAA (R++[L]) R.length u=(L[u]?).getD []:=by unfold zAA; rw [List.getElem?_append_right (zTI _),Nat.sub_self]; rfl
theorem zCD (E:List (List Int)) (tab:Nat→Nat→Nat):∀n,(rws E tab n).length=n
 | 0=>rfl
 | n+1=>by unfold rws; rw [List.length_append,zCD E tab n]; rfl
theorem zGx (E:List (List Int)) (tab:Nat→Nat→Nat):∀n,(cws E tab n).length=n
 | 0=>rfl
 | n+1=>by unfold cws; rw [List.length_append,zGx E tab n]; rfl
theorem TabOk.k_lt (h:TabOk E tab r) {n:Nat} (h0:0<n) (hn:n<E.length):tab n (hdE E n)<n:=by
 obtain ⟨h1,h2⟩:=h.hd n h0 hn;rcases Nat.lt_or_ge (tab n (hdE E n)) n with h3 | h3
 ·exact h3
 ·have:=h.srt n _ h3 (h.lt n _ hn h1);omega
theorem zGR (hR:RowsOk E R n) (k s u:Nat):Trd (zAE E tab (zAA R) k s u)∧InI (zAE E tab (zAA R) k s u)∧(zAE E tab (zAA R) k s u).length≤lenE E k+2:=by
 unfold zAE;split
 ·refine ⟨zEY _ _,zDu _ _,?_⟩;have h1:=zDv (zAA R k (tab u s)) (zAQ (zAA R k u) 1);have h2:=zBL (zAA R k u) 1;have h3:=hR.len k u;have h4:=hR.len k (tab u s);omega
 ·refine ⟨zEY _ _,zDu _ _,?_⟩;have h1:=zDv (zAQ (zAA R k (tab u s)) 1) (zAA R k u);have h2:=zBL (zAA R k (tab u s)) 1;have h3:=hR.len k u;have h4:=hR.len k (tab u s);omega
theorem zMg (_h:TabOk E tab r) (hR:RowsOk E R n) {m k s u z:Nat} {p:List Int} (hz:lenE E z≤lenE E m) (hp:Trd p∧InI p∧p.length≤lenE E m+1) :
  Trd (klZ E tab (zAA R) m k s u p z)∧InI (klZ E tab (zAA R) m k s u p z)∧(klZ E tab (zAA R) m k s u p z).length≤lenE E m+1:=by
 unfold klZ;split
 ·refine ⟨zEY _ _,zK1 _ _,?_⟩;generalize muS (zAA R k z) ((lenE E k:Int)-lenE E z)=q;have h1:=zK2 p (zAQ (mulP (zAA R z u) [q]) ((lenE E m-lenE E z) / 2));have h2:=zBL (mulP (zAA R z u) [q]) ((lenE E m-lenE E z) / 2);have h3:=zDb (zAA R z u) q;have h4:=hR.len z u;omega
 ·exact hp
theorem zKS {α β:Type} {P:β→Prop} {f:β→α→β}:∀{L:List α} {b:β},P b→(∀b a,a∈L→P b→P (f b a))→P (L.foldl f b)
 | [],_,h,_=>h
 | a::L,_,h,hf=>zKS (L:=L) (hf _ a (List.mem_cons_self ..) h) (fun b x hx hb=>hf b x (List.mem_cons_of_mem _ hx) hb)
theorem zEs {α β:Type} {f:β→α→β}:∀{L:List α} {b:β},(∀a∈L,f b a=b)→L.foldl f b=b
 | [],_,_=>rfl
 | a::L,b,h=>by rw [List.foldl_cons,h a (List.mem_cons_self ..)]; exact zEs (fun x hx=>h x (List.mem_cons_of_mem _ hx))
theorem zHX {α β:Type} {P:β→Prop} {f g:β→α→β}:∀{L:List α} {b:β},P b→(∀b a,a∈L→P b→P (f b a))→(∀b a,a∈L→P b→f b a=g b a)→L.foldl f b=L.foldl g b
 | [],_,_,_,_=>rfl
 | a::L,b,h,hf,hg=>by
  rw [List.foldl_cons,List.foldl_cons,<-hg b a (List.mem_cons_self ..) h];exact zHX (hf _ a (List.mem_cons_self ..) h) (fun b x hx hb=>hf b x (List.mem_cons_of_mem _ hx) hb) (fun b x hx hb=>hg b x (List.mem_cons_of_mem _ hx) hb)
theorem zQ0 (h:TabOk E tab r) (hR:RowsOk E R n) (h0:0<n) (hn:n<E.length) {u:Nat} (hu:u<E.length) :
  (Trd (zAz E tab (zAA R) n u)∧InI (zAz E tab (zAA R) n u)∧(zAz E tab (zAA R) n u).length≤lenE E n+1)∧zAz E tab (zAA R) n u=zA4 E tab (zAA R) n u:=by
 obtain ⟨hs,hk1⟩:=h.hd n h0 hn;have hkn:=h.k_lt h0 hn;have hkE:tab n (hdE E n)<E.length:=Nat.lt_trans hkn hn;have hself:=hR.self _ hkn;have hinv:=h.inv n (hdE E n) hn hs;unfold zAz zA4;generalize hdE E n=s at *;generalize hk:tab n s=k at *;have hz:∀z,z<k→lenE E z≤lenE E k:=fun z hz=>h.srt z k (Nat.le_of_lt hz) hkE;have hst:=zGR (tab:=tab) hR k s u;have hone:Trd [(1:Int)]∧InI [(1:Int)]:=⟨.inr (by decide),zM7⟩;have e10:zAQ [] 1=([]:List Int):=rfl;have hstay:∀{p:List Int},Trd p→InI p→(∀z,z<k→zAA R z u=[])→(List.range k).foldl (klZ E tab (zAA R) n k s u) p=p:=fun {p} h1 h2 h3=>by
  refine zEs fun z hzm=>?_;unfold klZ;rw [h3 z (List.mem_range.1 hzm),zO5,zLi,zPd h1 h2];split <;> rfl
 by_cases hun:u=n
 ·subst hun;rw [if_pos rfl];have hku:zAA R k u=[]:=hR.out k u hkn hu (by omega) (by omega);have e1:zAE E tab (zAA R) k s u=[1]:=by
   unfold zAE;rw [hk,if_pos (by omega),hself,hku,e10,zFr hone.1 hone.2]
  have e2:(List.range k).foldl (klZ E tab (zAA R) u k s u) (zAE E tab (zAA R) k s u)=[1]:=by
   rw [e1];exact hstay hone.1 hone.2 (fun z hz'=>hR.out z u (by omega) hu (by omega) (by have:=hz z hz'; omega))
  rw [e2];exact ⟨⟨hone.1,hone.2,by simp⟩,rfl⟩
 ·rw [if_neg hun];by_cases hle:lenE E n≤lenE E u
  ·rw [if_pos hle];have hku:zAA R k u=[]:=hR.out k u hkn hu (fun e=>by subst e; omega) (by omega);have hnx:tab u s≠k:=fun e=>by
    have:=h.inv u s hu hs;rw [e,hinv] at this;exact hun this.symm
   have hkx:zAA R k (tab u s)=[]:=by
    have:=h.ud u s hu hs;exact hR.out k _ hkn (h.lt u s hu hs) hnx (by omega)
   have e0:addP [] []=([]:List Int):=zFr (.inl rfl) zE2;have e1:zAE E tab (zAA R) k s u=[]:=by
    unfold zAE;rw [hku,hkx,e10,e0];split <;> rfl
   have e2:(List.range k).foldl (klZ E tab (zAA R) n k s u) (zAE E tab (zAA R) k s u)=[]:=by
    rw [e1];exact hstay (.inl rfl) zE2 (fun z hz'=>hR.out z u (by omega) hu (fun e=>by subst e; have:=hz u hz'; omega) (by have:=hz z hz'; omega))
   rw [e2];exact ⟨⟨.inl rfl,zE2,by simp⟩,rfl⟩
  ·rw [if_neg hle];have hP:Trd (zAE E tab (zAA R) k s u)∧InI (zAE E tab (zAA R) k s u)∧(zAE E tab (zAA R) k s u).length≤lenE E n+1:=⟨hst.1,hst.2.1,by have:=hst.2.2; omega⟩;have hstep:∀(p:List Int) (z:Nat),z∈List.range k→(Trd p∧InI p∧p.length≤lenE E n+1)→(Trd (klZ E tab (zAA R) n k s u p z)∧InI (klZ E tab (zAA R) n k s u p z)∧(klZ E tab (zAA R) n k s u p z).length≤lenE E n+1) :=
    fun p z hzm hp=>zMg h hR (by have:=hz z (List.mem_range.1 hzm); omega) hp
   refine ⟨zKS (P:=fun p=>Trd p∧InI p∧p.length≤lenE E n+1) hP hstep,?_⟩;have hsplit:List.range E.length=List.range k++(List.range (E.length-k)).map (k + ·):=by
    rw [<-List.range_add]; congr 1; omega
   rw [hsplit,List.foldl_append];have e1:(List.range k).foldl (klZ E tab (zAA R) n k s u) (zAE E tab (zAA R) k s u)=(List.range k).foldl (klY E tab (zAA R) n k s u) (zAE E tab (zAA R) k s u):=by
    refine zHX (P:=fun p=>Trd p∧InI p∧p.length≤lenE E n+1) hP hstep fun p z hzm hp=>?_;have hzk:=hz z (List.mem_range.1 hzm);have h4:=hR.len z u;have h5:=h.deep n;unfold klZ klY;rw [zG0];by_cases hc:muS (zAA R k z) ((lenE E k:Int)-lenE E z)≠0∧lenE E (tab z s)<lenE E z
    ·rw [if_pos hc,if_pos hc,zJv _ _ (by omega)]
    ·rw [if_neg hc,if_neg hc]
   rw [<-e1];refine (zEs fun z hzm=>?_).symm;obtain ⟨j,hj,rfl⟩:=List.mem_map.1 hzm;have hj:=List.mem_range.1 hj;have hzk:=h.srt k (k+j) (by omega) (by omega);unfold klY;rw [zDL _ (by omega),if_neg (fun hc=>hc.1 rfl)]
theorem RowsOk.start:RowsOk E [] 0:=⟨fun _ _=>.inl (by simp [zAA]),fun _ _ x hx=>by simp [zAA] at hx,fun _ _=>by simp [zAA],fun v hv=>by omega,fun v u hv=>by omega⟩
theorem zSi {f:Nat→List Int} {N u:Nat}:(((List.range N).map f)[u]?).getD []=if u<N then f u else []:=by
 rw [List.getElem?_map];by_cases h:u<N
 ·rw [List.getElem?_range h,if_pos h]; rfl
 ·rw [List.getElem?_eq_none (by simp; omega),if_neg h]; rfl
theorem zQr (h:TabOk E tab r) (hR:RowsOk E R n) (hl:R.length=n) (hn:n<E.length) :
  (List.range E.length).map (rowS E tab (zAA R) n)=(List.range E.length).map (zA4 E tab (zAA R) n)∧RowsOk E (R++[(List.range E.length).map (zA4 E tab (zAA R) n)]) (n+1):=by
 have hone:Trd [(1:Int)]∧InI [(1:Int)]:=⟨.inr (by decide),zM7⟩;have key:∀u,u<E.length→rowS E tab (zAA R) n u=zA4 E tab (zAA R) n u∧(Trd (zA4 E tab (zAA R) n u)∧InI (zA4 E tab (zAA R) n u)∧(zA4 E tab (zAA R) n u).length≤lenE E n+1):=fun u hu=>by
  unfold rowS;by_cases h0:n=0
  ·subst h0;rw [if_pos rfl];have e:zA4 E tab (zAA R) 0 u=if u=0 then [1] else []:=by
    unfold zA4;by_cases hu0:u=0
    ·rw [if_pos hu0,if_pos hu0]
    ·rw [if_neg hu0,if_neg hu0,h.one,if_pos (Nat.zero_le _)]
   rw [e];refine ⟨rfl,?_⟩;split
   ·exact ⟨hone.1,hone.2,by simp⟩
   ·exact ⟨.inl rfl,zE2,by simp⟩
  ·rw [if_neg h0];obtain ⟨h1,h2⟩:=zQ0 h hR (by omega) hn hu;refine ⟨h2,?_⟩;rw [<-h2];exact h1
 refine ⟨List.map_congr_left fun u hu=>(key u (List.mem_range.1 hu)).1,?_⟩;have hlook:∀v u,zAA (R++[(List.range E.length).map (zA4 E tab (zAA R) n)]) v u=if v<n then zAA R v u else if v=n∧u<E.length then zA4 E tab (zAA R) n u else []:=fun v u=>by
  by_cases hv:v<n
  ·rw [if_pos hv,zHf (by omega)]
  ·rw [if_neg hv];by_cases hvn:v=n
   ·subst hvn;rw [<-hl,zMk,zSi];by_cases hu:u<E.length
    ·rw [if_pos hu,if_pos ⟨rfl,hu⟩]
    ·rw [if_neg hu,if_neg (fun h=>hu h.2)]
   ·rw [if_neg (fun h=>hvn h.1),zMl (by simp; omega)]
 refine ⟨fun v u=>?_,fun v u=>?_,fun v u=>?_,fun v hv=>?_,fun v u hv hu huv hlen=>?_⟩
 ·rw [hlook];split
  ·exact hR.trd v u
  ·split
   ·rename_i hc; exact (key u hc.2).2.1
   ·exact .inl rfl
 ·rw [hlook];split
  ·exact hR.ini v u
  ·split
   ·rename_i hc; exact (key u hc.2).2.2.1
   ·exact zE2
 ·rw [hlook];split
  ·exact hR.len v u
  ·split
   ·rename_i hc; rw [hc.1]; exact (key u hc.2).2.2.2
   ·simp
 ·rw [hlook];by_cases hvn:v<n
  ·rw [if_pos hvn]; exact hR.self v hvn
  ·have:v=n:=by omega
   subst this;rw [if_neg hvn,if_pos ⟨rfl,hn⟩];unfold zA4;rw [if_pos rfl]
 ·rw [hlook];by_cases hvn:v<n
  ·rw [if_pos hvn]; exact hR.out v u hvn hu huv hlen
  ·have:v=n:=by omega
   subst this;rw [if_neg hvn,if_pos ⟨rfl,hu⟩];unfold zA4;rw [if_neg huv,if_pos hlen]
theorem zD3 (h:TabOk E tab r):∀n,n≤E.length→rws E tab n=cws E tab n∧RowsOk E (cws E tab n) n
 | 0,_=>⟨rfl,RowsOk.start⟩
 | n+1,hn=>by
  obtain ⟨h1,h2⟩:=zD3 h n (by omega);obtain ⟨h3,h4⟩:=zQr h h2 (zGx E tab n) (by omega);unfold rws cws;rw [h1];exact ⟨by rw [h3],h4⟩
end
end Go.Proofs.YtlgcdacpjcnjgaaGreatDoor
