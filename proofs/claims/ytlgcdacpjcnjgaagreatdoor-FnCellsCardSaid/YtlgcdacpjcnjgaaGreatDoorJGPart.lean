/- Points of a diagram that are connected; parts. Plain lists. -/
import Derived.Test.YtlgcdacpjcnjgaaGreatDoorJGStar
namespace Go.Proofs.YtlgcdacpjcnjgaaGreatDoor
open Go.RowKit
def nbr (c:List (List Int)) (i:Nat):List Nat:=(List.range c.length).filter fun j=>decide (j≠i) && decide (ent c i j≠0)
theorem zMu {c:List (List Int)} {i j:Nat} (h:j∈nbr c i):j<c.length:=List.mem_range.1 (List.mem_filter.1 h).1
abbrev Sn:=List Bool × List Nat
def zAf (st:Sn) (j:Nat):Sn:=if (st.1[j]?).getD true=true then st else (st.1.set j true,st.2++[j])
def zGq (s:List Bool):Nat:=s.count false
theorem zHR {s:List Bool} {j:Nat} (h:s[j]? = some false):(s.set j true).count false+1=s.count false:=by
 induction s generalizing j with
 | nil=>simp at h
 | cons a s ih =>
  cases j with
  | zero=>simp at h; subst h; simp
  | succ j =>
   have:=ih (j:=j) (by simpa using h);simp only [List.set_cons_succ,List.count_cons];omega
structure SnOk (n:Nat) (st:Sn):Prop where
 len:st.1.length=n
 lt:∀j∈st.2,j<n
 cnt:st.2.length+zGq st.1≤n
theorem SnOk.le {n:Nat} {st:Sn} (h:SnOk n st):st.2.length≤n:=by have:=h.cnt; omega
theorem zNt {n:Nat} {st:Sn} {j:Nat} (h:SnOk n st) (hj:j<n):SnOk n (zAf st j)∧st.2.length≤(zAf st j).2.length:=by
 unfold zAf;split
 ·exact ⟨h,zTI _⟩
 ·rename_i hs
  have hjl:j<st.1.length:=by rw [h.len]; exact hj
  have hv:st.1[j]? = some false:=by
   rw [zTE hjl] at hs ⊢;simpa using hs
  have:=zHR hv;refine ⟨⟨by simpa using h.len,fun i hi=>?_,?_⟩,by simp⟩
  ·rcases List.mem_append.1 hi with hi | hi
   ·exact h.lt i hi
   ·rw [List.mem_singleton] at hi; subst hi; exact hj
  ·have:=h.cnt;unfold zGq at *;simp only [List.length_append,List.length_singleton];omega
theorem zEl {n:Nat}:∀{L:List Nat} {st:Sn},SnOk n st→(∀j∈L,j<n)→SnOk n (L.foldl zAf st)∧st.2.length≤(L.foldl zAf st).2.length
 | [],st,h,_=>⟨h,zTI _⟩
 | j::L,st,h,hL=>by
  obtain ⟨a,b⟩:=zNt h (hL j (List.mem_cons_self ..));obtain ⟨d,e⟩:=zEl (L:=L) a (fun i hi=>hL i (List.mem_cons_of_mem _ hi));exact ⟨d,Nat.le_trans b e⟩
def bfsP (c:List (List Int)):Nat→Nat→Sn→Sn
 | 0,_,st=>st
 |f+1,k,st=>match st.2[k]? with
  | none=>st
  | some i=>bfsP c f (k+1) ((nbr c i).foldl zAf st)
theorem zHL {c:List (List Int)} {f k i:Nat} {st:Sn} (h:st.2[k]? = some i):bfsP c (f+1) k st=bfsP c f (k+1) ((nbr c i).foldl zAf st):=by simp only [bfsP,h]
theorem zIR {c:List (List Int)} {f k:Nat} {st:Sn} (h:st.2.length≤k):bfsP c f k st=st:=by
 cases f with
 | zero=>rfl
 | succ f=>simp only [bfsP,List.getElem?_eq_none h]
def start (_n i:Nat) (s:List Bool):Sn:=(s.set i true,[i])
theorem zJa {n i:Nat} {s:List Bool} (hs:s.length=n) (hi:s[i]? = some false):SnOk n (start n i s):=by
 have h1:=zHR hi;have h2:s.count false≤s.length:=List.count_le_length;have h3:=(zTG hi).1;refine ⟨by simp [start,hs],fun j hj=>?_,?_⟩
 ·simp only [start,List.mem_singleton] at hj; omega
 ·simp only [start,zGq,List.length_singleton]; omega
def zBd (c:List (List Int)) (i:Nat) (s:List Bool):Sn:=bfsP c (c.length+1) 0 (start c.length i s)
def zBq (c:List (List Int)) (i:Nat):List Nat:=(List.range c.length).filter fun k=>((zBd c i (List.replicate c.length false)).1[k]?).getD false
def zA2 (c:List (List Int)) (k:Nat):List (List Nat):=(List.range k).filterMap fun i=>if (zBq c i).head? = some i then some (zBq c i) else none
def zGf (c:List (List Int)):List (List Nat):=zA2 c c.length
theorem zJH (c:List (List Int)) (k:Nat):zA2 c (k+1)=zA2 c k++if (zBq c k).head? = some k then [zBq c k] else []:=by
 unfold zA2;rw [List.range_succ,List.filterMap_append];congr 1;by_cases h:(zBq c k).head? = some k
 ·simp [h]
 ·simp [h]
theorem zJs (c:List (List Int)) (k:Nat):(zA2 c k).length≤k:=by
 unfold zA2;exact Nat.le_trans (List.length_filterMap_le _ _) (by simp)
theorem zLG {st:Sn} {x j:Nat} (h:st.1[j]? = some true):(zAf st x).1[j]? = some true:=by
 unfold zAf;split
 ·exact h
 ·simp only [List.getElem?_set];split
  ·rename_i e
   subst e;rw [if_pos (zTG h).1]
  ·exact h
theorem zFc {j:Nat}:∀{L:List Nat} {st:Sn},st.1[j]? = some true→(L.foldl zAf st).1[j]? = some true
 | [],_,h=>h
 | _::L,_,h=>zFc (L:=L) (zLG h)
theorem zHK {c:List (List Int)} {j:Nat}:∀(f k:Nat) {st:Sn},st.1[j]? = some true→(bfsP c f k st).1[j]? = some true
 | 0,_,_,h=>h
 | f+1,k,st,h=>by
  unfold bfsP;split
  ·exact h
  ·exact zHK f (k+1) (zFc h)
theorem zM9 {c:List (List Int)} {i:Nat} (hi:i<c.length):i∈zBq c i:=by
 unfold zBq;refine List.mem_filter.2 ⟨List.mem_range.2 hi,?_⟩;have:(zBd c i (List.replicate c.length false)).1[i]? = some true:=zHK _ _ (by simp [start,hi]);rw [this]; rfl
def insN (x:Nat):List Nat→List Nat
 | []=>[x]
 | y::l=>if x≤y then x::y::l else y::insN x l
def srtN:List Nat→List Nat
 | []=>[]
 | x::l=>insN x (srtN l)
def zBM (c:List (List Int)) (st:List Bool × List (List Nat)) (i:Nat):List Bool × List (List Nat) :=
 if (st.1[i]?).getD true=true then st else ((zBd c i st.1).1,st.2++[srtN (zBd c i st.1).2])
def zAU (c:List (List Int)):List (List Nat):=((List.range c.length).foldl (zBM c) (List.replicate c.length false,[])).2
theorem zDk (x:Nat):∀l,(insN x l).Perm (x::l)
 | []=>List.Perm.refl _
 | y::l=>by
  unfold insN;split
  ·exact List.Perm.refl _
  ·exact ((zDk x l).cons y).trans (List.Perm.swap x y l)
theorem zBN:∀l,(srtN l).Perm l
 | []=>List.Perm.refl _
 | x::l=>(zDk x (srtN l)).trans ((zBN l).cons x)
theorem zFx {x:Nat}:∀{l:List Nat},l.Pairwise (·≤·)→(insN x l).Pairwise (·≤·)
 | [],_=>List.pairwise_singleton _ _
 | y::l,h=>by
  unfold insN;have hc:=List.pairwise_cons.1 h;split
  ·rename_i hxy
   refine List.pairwise_cons.2 ⟨fun z hz=>?_,h⟩;rcases List.mem_cons.1 hz with rfl | hz
   ·exact hxy
   ·exact Nat.le_trans hxy (hc.1 z hz)
  ·refine List.pairwise_cons.2 ⟨fun z hz=>?_,zFx hc.2⟩;rcases List.mem_cons.1 ((zDk x l).mem_iff.1 hz) with rfl | hz
   ·omega
   ·exact hc.1 z hz
theorem zDe:∀l,(srtN l).Pairwise (·≤·)
 | []=>List.Pairwise.nil
 | _x::l=>zFx (zDe l)
theorem zGn:∀{l m:List Nat},l.Perm m→l.Pairwise (·≤·)→m.Pairwise (·≤·)→l=m
 | [],m,h,_,_=>by rw [List.nil_perm.1 h]
 | x::l,m,h,hl,hm=>by
  cases m with
  | nil=>simp at h
  | cons y m =>
   have h1:=List.pairwise_cons.1 hl;have h2:=List.pairwise_cons.1 hm;have hx:x∈y::m:=h.mem_iff.1 (List.mem_cons_self ..);have hy:y∈x::l:=h.mem_iff.2 (List.mem_cons_self ..);have e:x=y:=by
    rcases List.mem_cons.1 hx with e | hx
    ·exact e
    ·rcases List.mem_cons.1 hy with e | hy
     ·exact e.symm
     ·have:=h2.1 x hx; have:=h1.1 y hy; omega
   subst e;rw [zGn (List.perm_cons x |>.1 h) h1.2 h2.2]
set_option maxRecDepth 20000
set_option maxHeartbeats 8000000
abbrev iL (l:List Nat):List Int:=l.map fun (j:Nat)=>(j:Int)
def zAy (c:List (List Int)) (i k:Nat):List Nat:=(List.range k).filter fun j=>decide (j≠i) && decide (ent c i j≠0)
theorem zGV (c:List (List Int)) (i k:Nat):iL (zAy c i (k+1))=iL (zAy c i k)++if k≠i∧ent c i k≠0 then [(k:Int)] else []:=by
 unfold zAy iL;rw [List.range_succ,List.filter_append,List.map_append];congr 1;by_cases h1:k=i
 ·simp [h1]
 ·by_cases h2:ent c i k=0
  ·simp [h1,h2]
  ·simp [h1,h2]
theorem zDl (c:List (List Int)) (i k:Nat):(iL (zAy c i k)).length≤k:=by
 unfold zAy iL;rw [List.length_map];exact Nat.le_trans (List.length_filter_le _ _) (by simp)
theorem zG1 {S:Nat→Prop} {u:Value} {c:List (List Int)} {i:Nat} {w:World} (h:RII S w u c) (hc:isC c=true) (hi:i<c.length) (hl:total c≤16777216) :
  Calls Tryz.prog 156 #[u,.int .i64 i] w fun e w'=>∃r,e=.returned r∧FI (New w w') w' r (iL (nbr c i))∧Below w.heap.size w w':=by
 have hC:=fun w1 (b1:Below w.heap.size w w1)=>zBk (h.below b1) hl;simp only [hc] at hC;have hP:=fun w1 (b1:Below w.heap.size w w1)=>zJq (i:Int) (h.below b1);have hpt:ptB c (i:Int)=true:=zDK ⟨by omega,by omega⟩;simp only [hpt] at hP;have HS:=zTD (zGV c i);have HL:=zTD (zDl c i);have H0:Hid (iL (zAy c i 0)=[]):=zTD (by simp [zAy]);have HN:Hid (iL (zAy c i c.length)=iL (nbr c i)):=zTD rfl;have hcp:=zAS.1 hc;have h4:c.length≤4:=hcp.le;have HROW:Hid (∀l∈c,l.length=c.length):=zTD hcp.row;have HENT:Hid (∀(l:List Int) (j:Nat) (x:Int),c[i]? = some l→l[j]? = some x→ent c i j=x):=zTD (fun l j x h1 h2=>by unfold ent; rw [h1]; simp [h2]);clear hpt hc hcp;have h0:=h;obtain ⟨au,cu,rfl⟩:=h.form;generalize hn:c.length=n at *;clear hn;go_enter Tryz.func156,Tryz.ntmps156
 go_wp2_with fail
 obtain ⟨w1,hw1⟩:∃w1,w1=w.alloc (.cells #[] 3):=⟨_,rfl⟩;obtain ⟨f1,b1⟩:=zAN (Below.refl _ w) hw1;rw [<-H0.out] at f1;rw [<-hw1];clear hw1;refine (hC w1 b1).mono ?_;rintro e w2 ⟨rfl,m2,hm2⟩;have b2:Below w1.heap.size w1 w2:=zAu ⟨m2,hm2⟩;clear hm2;have b02:=zAC.step b1 b2;have f2:=f1.grow b2;go_wp2_with fail
 refine (hP w2 b02).mono ?_;rintro e w3 ⟨rfl,rfl⟩;clear hC hP;go_wp2_with fail
 go_loopw [5,20] (fun zz j wr=>∃(k:Nat) (z:Value),z=zz∧k≤n∧j=.int .i64 k∧FI (New w wr) wr z (iL (zAy c i k))∧Below w.heap.size w wr) (fun _ j _=>n-(intOf j).toNat)
 case atStart=>exact ⟨0,_,rfl,Nat.zero_le _,rfl,f2,b02⟩
 case round =>
  obtain ⟨k,z,rfl,hk,rfl,hf,hb⟩:=hrel;by_cases hkn:k<n
  ·have i1:(k:Int)<(n:Int):=by omega
   have hkl:=HL.out k;have HS2:=zTD (HS.out k);by_cases hki:k=i
   ·have HS3:Hid (iL (zAy c i (k+1))=iL (zAy c i k)):=zTD (by rw [HS2.out,if_neg (by omega),List.append_nil]);have j1:((k:Int) != (i:Int))=false:=by simp; omega
    clear hki;go_wp2_with fail
    go_roundw
    case rel=>exact ⟨k+1,_,rfl,by omega,by go_num,by rw [HS3.out]; exact hf,hb⟩
    case measure=>simp [intOf]; omega
   ·have j1:((k:Int) != (i:Int))=true:=by simp; omega
    obtain ⟨b,o,r,l,e8,hc,hr,hlx⟩:=(h0.below hb).at hi;subst e8;obtain ⟨ar,cr,rfl⟩:=hr.form;have hln:l.length=n:=HROW.out l (zTF hlx.out);rw [hln] at hr hc;obtain ⟨b2,o2,x,e9,hcx,hx⟩:=RI.at hr hkn;subst e9;have hent:=HENT.out l k x hlx.out hx.out;clear hln;by_cases hx0:x=0
    ·have HS3:Hid (iL (zAy c i (k+1))=iL (zAy c i k)):=zTD (by rw [HS2.out,if_neg (by rw [hent]; omega),List.append_nil]);have j2:(x != 0)=false:=by simp [hx0]
     clear hx0 hent hki;go_wp2_with fail
     go_roundw
     case rel=>exact ⟨k+1,_,rfl,by omega,by go_num,by rw [HS3.out]; exact hf,hb⟩
     case measure=>simp [intOf]; omega
    ·have HS3:Hid (iL (zAy c i (k+1))=iL (zAy c i k)++[(k:Int)]):=zTD (by rw [HS2.out,if_pos ⟨hki,by rw [hent]; exact hx0⟩]);have j2:(x != 0)=true:=by simp [hx0]
     clear hx0 hent hki;have bb:∀wr:World,Below wr.heap.size wr (wr.alloc (.cells #[.int .i64 k] 3)):=fun wr=>(Below.refl wr.heap.size wr).alloc (zTI _) _;go_wp2_with (at_builtin; go_must (refine zAL (W:=w) rfl _ _ rfl rfl (hf.grow (bb _)) (zAC.step hb (bb _)) rfl (RI.one _ k) ?_ ?_))
     ·simp at hkl ⊢; omega
     ·intro v' w4 f4 b4 hg4;go_wp2_with fail
      go_roundw
      case rel=>exact ⟨k+1,_,rfl,by omega,by go_num,by rw [HS3.out]; exact f4,b4⟩
      case measure=>simp [intOf]; omega
  ·have hkm:k=n:=by omega
   have i1:¬(k:Int)<(n:Int):=by omega
   rw [hkm,HN.out] at hf;clear hkm;go_wp2_with fail
   go_ret
   exact ⟨_,rfl,hf,hb⟩
theorem zG2 {S:Nat→Prop} {u:Value} {c:List (List Int)} {i:Nat} {w:World} (h:RII S w u c) (hc:isC c=true) (hi:i<c.length) (hl:total c≤16777216) :
  Calls Tryz.prog 139 #[u,.int .i64 i] w fun e w'=>∃r,e=.returned r∧FI (New w w') w' r (iL (nbr c i))∧Below w.heap.size w w':=by
 have hC:=fun w1 (b1:Below w.heap.size w w1)=>zAr (h.below b1) hl;simp only [hc] at hC;have hP:=fun w1:World=>zCp (i:Int) 0 ((c.length:Int)-1) w1;have hpt:inR (i:Int) 0 ((c.length:Int)-1)=true:=zDK ⟨by omega,by omega⟩;simp only [hpt] at hP;have HS:=zTD (zGV c i);have HL:=zTD (zDl c i);have H0:Hid (iL (zAy c i 0)=[]):=zTD (by simp [zAy]);have HN:Hid (iL (zAy c i c.length)=iL (nbr c i)):=zTD rfl;have hcp:=zAS.1 hc;have h4:c.length≤4:=hcp.le;have HROW:Hid (∀l∈c,l.length=c.length):=zTD hcp.row;have HENT:Hid (∀(l:List Int) (j:Nat) (x:Int),c[i]? = some l→l[j]? = some x→ent c i j=x):=zTD (fun l j x h1 h2=>by unfold ent; rw [h1]; simp [h2]);clear hpt hc hcp;have h0:=h;obtain ⟨au,cu,rfl⟩:=h.form;generalize hn:c.length=n at *;clear hn;go_enter Tryz.func139,Tryz.ntmps139
 go_wp2_with fail
 obtain ⟨w1,hw1⟩:∃w1,w1=w.alloc (.cells #[] 3):=⟨_,rfl⟩;obtain ⟨f1,b1⟩:=zAN (Below.refl _ w) hw1;rw [<-H0.out] at f1;rw [<-hw1];clear hw1;go_loopw [5,6] (fun zz j wr=>∃(k:Nat) (z:Value),z=zz∧k≤n∧j=.int .i64 k∧FI (New w wr) wr z (iL (zAy c i k))∧Below w.heap.size w wr) (fun _ j _=>n-(intOf j).toNat)
 case atStart=>exact ⟨0,_,rfl,Nat.zero_le _,rfl,f1,b1⟩
 case round =>
  obtain ⟨k,z,rfl,hk,rfl,hf,hb⟩:=hrel;by_cases hkn:k<n
  ·have i1:(k:Int)<(n:Int):=by omega
   have hkl:=HL.out k;have HS2:=zTD (HS.out k);go_wp2_with fail
   refine (hC _ hb).mono ?_;rintro e w2 ⟨rfl,m2,hm2⟩;have b2:Below wr.heap.size wr w2:=zAu ⟨m2,hm2⟩;clear hm2;have hb:=zAC.step hb b2;have hf:=hf.grow b2;go_wp2_with fail
   refine (hP w2).mono ?_;rintro e w3 ⟨rfl,rfl⟩;by_cases hki:k=i
   ·have HS3:Hid (iL (zAy c i (k+1))=iL (zAy c i k)):=zTD (by rw [HS2.out,if_neg (by omega),List.append_nil]);have j1:((k:Int) != (i:Int))=false:=by simp; omega
    clear hki;go_wp2_with fail
    go_roundw
    case rel=>exact ⟨k+1,_,rfl,by omega,by go_num,by rw [HS3.out]; exact hf,hb⟩
    case measure=>simp [intOf]; omega
   ·have j1:((k:Int) != (i:Int))=true:=by simp; omega
    obtain ⟨b,o,r,l,e8,hc,hr,hlx⟩:=(h0.below hb).at hi;subst e8;obtain ⟨ar,cr,rfl⟩:=hr.form;have hln:l.length=n:=HROW.out l (zTF hlx.out);rw [hln] at hr hc;obtain ⟨b2,o2,x,e9,hcx,hx⟩:=RI.at hr hkn;subst e9;have hent:=HENT.out l k x hlx.out hx.out;clear hln;by_cases hx0:x=0
    ·have HS3:Hid (iL (zAy c i (k+1))=iL (zAy c i k)):=zTD (by rw [HS2.out,if_neg (by rw [hent]; omega),List.append_nil]);have j2:(x != 0)=false:=by simp [hx0]
     clear hx0 hent hki;go_wp2_with fail
     go_roundw
     case rel=>exact ⟨k+1,_,rfl,by omega,by go_num,by rw [HS3.out]; exact hf,hb⟩
     case measure=>simp [intOf]; omega
    ·have HS3:Hid (iL (zAy c i (k+1))=iL (zAy c i k)++[(k:Int)]):=zTD (by rw [HS2.out,if_pos ⟨hki,by rw [hent]; exact hx0⟩]);have j2:(x != 0)=true:=by simp [hx0]
     clear hx0 hent hki;have bb:∀wr:World,Below wr.heap.size wr (wr.alloc (.cells #[.int .i64 k] 3)):=fun wr=>(Below.refl wr.heap.size wr).alloc (zTI _) _;go_wp2_with (at_builtin; go_must (refine zAL (W:=w) rfl _ _ rfl rfl (hf.grow (bb _)) (zAC.step hb (bb _)) rfl (RI.one _ k) ?_ ?_))
     ·simp at hkl ⊢; omega
     ·intro v' w4 f4 b4 hg4;go_wp2_with fail
      go_roundw
      case rel=>exact ⟨k+1,_,rfl,by omega,by go_num,by rw [HS3.out]; exact f4,b4⟩
      case measure=>simp [intOf]; omega
  ·have hkm:k=n:=by omega
   have i1:¬(k:Int)<(n:Int):=by omega
   rw [hkm,HN.out] at hf;clear hkm;go_wp2_with fail
   go_ret
   exact ⟨_,rfl,hf,hb⟩
theorem zMI (p:Nat→Bool) (k:Nat):iL ((List.range (k+1)).filter p)=iL ((List.range k).filter p)++if p k=true then [(k:Int)] else []:=by
 unfold iL;rw [List.range_succ,List.filter_append,List.map_append];congr 1;by_cases h:p k=true
 ·simp [h]
 ·simp [h]
theorem zOc (p:Nat→Bool) (k:Nat):(iL ((List.range k).filter p)).length≤k:=by
 unfold iL;rw [List.length_map];exact Nat.le_trans (List.length_filter_le _ _) (by simp)
theorem RI.grownO {lo hi:Nat} {w w':World} {r:Value} {l:List Int} {own:Option Nat} (h:RI (Bt lo hi) w r l) (hg:w.grownBy w' own) (hn:∀b,own=some b→b<lo∨hi≤b):RI (Bt lo hi) w' r l :=
 h.keep fun b hb hl=>hg.block b hl (fun e=>by have:=hn b e.symm; have:=hb.1; have:=hb.2; omega)
theorem RI.setB {S:Nat→Prop} {w:World} {r:Value} {l:List Int} {g j:Nat} {x:Value} (h:RI S w r l) (hg:∃cur,w.heap[g]? = some (.cells cur 4 (0,0))):RI S (w.setCell ⟨g,j,none⟩ x) r l:=by
 obtain ⟨a,cap,hv,hcap,h⟩:=h;refine ⟨a,cap,hv,hcap,?_⟩;rcases h with h | ⟨b,o,ha,hs,ht',h⟩
 ·exact .inl h
 ·have hk:(w.setCell ⟨g,j,none⟩ x).heap[b]? = w.heap[b]?:=heap_setCell_other w ⟨g,j,none⟩ b x (fun e=>by
   obtain ⟨c1,t1⟩:=hg;obtain ⟨cur,fz,h0⟩:=ht';rw [e,t1] at h0;simp at h0)
  refine .inr ⟨b,o,ha,hs,ht'.keep (fun _=>hk),fun j x hx=>?_⟩;obtain ⟨r,h1,h2⟩:=h j x hx;exact ⟨r,by rw [World.cell?_of_block (w:=w) hk]; exact h1,h2⟩
theorem zGN {W w w1:World} {y:Nat} (hw:Below W.heap.size W w) (h:w1=w.alloc (.cells #[.int .i64 y] 3)):FI (New W w1) w1 (.slice (some ⟨w.heap.size,0,none⟩) 1 1) (iL [y])∧Below W.heap.size W w1:=by
 subst h;refine ⟨(FI.of_row (w:=w) (World.ownsRow_lit (base:=w.heap.size) (e:=3) (size:=1) w #[.int .i64 y] 1 (zTI _) (by unfold maxLen; omega) rfl) (zTI _) rfl rfl).mono (fun b hb=>⟨Nat.le_trans hw.size hb.1,hb.2⟩),hw.alloc hw.size _⟩
structure BQ (w0 wr:World) (lo hi g n:Nat) (qv:Value) (st:Sn):Prop where
 ms:FBo (New w0 wr) wr (.slice (some ⟨g,0,none⟩) n n) st.1
 qu:FI (New w0 wr) wr qv (iL st.2)
 bl:Below w0.heap.size w0 wr
 ap:∀b,qv.ownBlock=some b→b<lo∨hi≤b
 le:hi≤wr.heap.size
theorem BQ.below {w0 wr w':World} {lo hi g n:Nat} {qv:Value} {st:Sn} (h:BQ w0 wr lo hi g n qv st) (hb:Below wr.heap.size wr w'):BQ w0 w' lo hi g n qv st :=
 ⟨h.ms.grow hb,h.qu.grow hb,zAC.step h.bl hb,h.ap,Nat.le_trans h.le hb.size⟩
theorem BQ.gle {w0 wr:World} {lo hi g n:Nat} {qv:Value} {st:Sn} (h:BQ w0 wr lo hi g n qv st):w0.heap.size≤g∧g<wr.heap.size:=h.ms.2 g rfl
theorem BQ.mark {w0 wr:World} {lo hi g n:Nat} {qv:Value} {s:List Bool} {q:List Nat} (h:BQ w0 wr lo hi g n qv (s,q)) (hn:s.length=n) (j:Nat) (x:Bool):BQ w0 (wr.setCell ⟨g,j,none⟩ (.bool x)) lo hi g n qv (s.set j x,q):=by
 have hz:(wr.setCell ⟨g,j,none⟩ (.bool x)).heap.size=wr.heap.size:=zAM _ _ _;refine ⟨(h.ms.put hn j x).mono (fun b hb=>⟨hb.1,by rw [hz]; exact hb.2⟩),(h.qu.storedB h.ms).mono (fun b hb=>⟨hb.1,by rw [hz]; exact hb.2⟩),h.bl.setCell h.gle.1 _,h.ap,by rw [hz]; exact h.le⟩
theorem BQ.pushed {w0 wr w1 w':World} {lo hi g n:Nat} {qv v':Value} {s:List Bool} {q:List Nat} {j:Nat} (h:BQ w0 wr lo hi g n qv (s,q)) (hb:Below wr.heap.size wr w1) (f:FI (New w0 w') w' v' (iL q++[(j:Int)])) (b:Below w0.heap.size w0 w')
  (hg:w1.grownBy w' qv.ownBlock) (hw:∀b,v'.ownBlock=some b→qv.ownBlock=some b∨w1.heap.size≤b):BQ w0 w' lo hi g n v' (s,q++[j]):=by
 have h1:=h.below hb;have hsz:=hg.size;refine ⟨((h1.ms.grown h1.qu hg).mono (fun b hb=>⟨hb.1,by have:=hb.2; omega⟩)),by simpa [iL] using f,b,fun b hb=>?_,Nat.le_trans h1.le hsz⟩;rcases hw b hb with e | e
 ·exact h.ap b e
 ·exact .inr (Nat.le_trans h1.le e)
theorem zLV {S:Nat→Prop} {u:Value} {c:List (List Int)} {i:Nat} {w:World} (h:RII S w u c) (hc:isC c=true) (hi:i<c.length) (hl:total c≤16777216) :
  Calls Tryz.prog 84 #[u,.int .i64 i] w fun e w'=>∃r,e=.returned r∧FI (New w w') w' r (iL (zBq c i))∧Below w.heap.size w w':=by
 obtain ⟨i0,hi0,hz0,hz1,hz2⟩:=info_parts zDY;have h4:c.length≤4:=(zAS.1 hc).le;have hNB:=fun (wr:World) (hb:Below w.heap.size w wr) (j:Nat) (hj:j<c.length)=>zG2 (i:=j) (h.below hb) hc hj hl;have HLT:Hid (∀j k:Nat,k∈nbr c j→k<c.length):=zTD (fun j k hk=>zMu hk);have HF0:Hid (bfsP c (c.length+1) 0 (start c.length i (List.replicate c.length false))=zBd c i (List.replicate c.length false)):=zTD rfl;have HS0:Hid (SnOk c.length (start c.length i (List.replicate c.length false))):=zTD (zJa (by simp) (by simp [hi]));have HRES:Hid (iL (zBq c i)=iL ((List.range c.length).filter fun k=>((zBd c i (List.replicate c.length false)).1[k]?).getD false)):=zTD rfl;have HFL:Hid ((zBd c i (List.replicate c.length false)).1.length=(zBd c i (List.replicate c.length false)).1.length):=zTD rfl
 have HBF:=zTD (fun (f k j:Nat) (st:Sn) (hj:st.2[k]? = some j)=>zHL (c:=c) (f:=f) hj);have HBE:=zTD (fun (f k:Nat) (st:Sn) (hk:st.2.length≤k)=>zIR (c:=c) (f:=f) hk);generalize zBd c i (List.replicate c.length false)=F at *;clear hc HFL;have h0:=h;obtain ⟨au,cu,rfl⟩:=h.form;have HST:Hid (start c.length i (List.replicate c.length false)=((List.replicate c.length false).set i true,[i])):=zTD rfl;rw [HST.out] at HS0 HF0;generalize hn:c.length=n at *;have HN:=zTD hn;clear hn HST;go_enter Tryz.func84,Tryz.ntmps84
 go_wp2_with (at_make; (refine wpList_make_full _ rfl _ _ 47 rfl w.heap.size 4 i0 (.bool false) 1 Tryz.underlying47 hi0 hz0 hz1 _ _ _ _ n rfl rfl (by first | rfl | (simp only [wrap64]; omega)) (by first | rfl | (simp only [wrap64]; omega)) ?hb ?hm ?hs ?_))
 case hb=>first | (rw [hz2]; omega) | omega
 case hm=>unfold maxLen; omega
 case hs=>exact zTI _
 intro w1 hown hgr;have hb1:Below w.heap.size w w1:=(Below.refl _ w).grown hgr (zTI _) (by simp);have hf1:FBo (New w w1) w1 (.slice (some ⟨w.heap.size,0,none⟩) n n) (List.replicate n false):=FBo.of_row (w:=w) (by simpa using hown) (zTI _) (by simp) (by simp [toList_madeCells_one]);clear hgr hown hi0 hz0 hz1 hz2;have HFR:Hid (∀(l:List Bool) (wr:World) (S:Nat→Prop) (k:Nat),FBo S wr (.slice (some ⟨w.heap.size,0,none⟩) n n) l→l.length=n→wr.frozen? ⟨w.heap.size,k,none⟩=false):=zTD (fun l wr S k h hl=>h.froz hl k);have c1:=hf1.cell (by simp) (k:=i) (x:=false) (by simp [hi]);have z1:=hf1.froz (by simp) i;have i1:(i:Int)<(n:Int):=by omega
 have i2:(0:Int)≤(i:Int):=by omega
 have hzs:(w1.setCell ⟨w.heap.size,i,none⟩ (.bool true)).heap.size=w1.heap.size:=zAM _ _ _;have hf2:=(hf1.put (by simp) i true).mono (S':=New w (w1.setCell ⟨w.heap.size,i,none⟩ (.bool true))) (fun b hb=>⟨hb.1,by rw [hzs]; exact hb.2⟩);have hb2:Below w.heap.size w (w1.setCell ⟨w.heap.size,i,none⟩ (.bool true)):=hb1.setCell (zTI _) _;go_wp2_with fail
 generalize w1.setCell ⟨w.heap.size,i,none⟩ (.bool true)=w2 at *;obtain ⟨w3,hw3⟩:∃w3,w3=w2.alloc (.cells #[.int .i64 i] 3):=⟨_,rfl⟩;obtain ⟨f3,b3⟩:=zGN hb2 hw3;have bb3:Below w2.heap.size w2 w3:=by rw [hw3]; exact (Below.refl _ w2).alloc (zTI _) _
 rw [<-hw3];clear hw3;have hbq:BQ w w3 0 0 w.heap.size n (.slice (some ⟨w2.heap.size,0,none⟩) 1 1) ((List.replicate n false).set i true,[i]):=⟨hf2.grow bb3,f3,b3,fun b _=>.inr (Nat.zero_le _),Nat.zero_le _⟩;rw [hzs] at hbq;clear f3 hf2 hf1 c1 z1 hb1;go_wp2_with fail
 go_loopw [6,7] (fun zz kk wr=>∃(k:Nat) (zv:Value) (st:Sn),zv=zz∧k≤st.2.length∧kk=.int .i64 k∧BQ w wr 0 0 w.heap.size n zv st∧Hid (SnOk n st)∧Hid (bfsP c (n+1-k) k st=F)) (fun _ kk _=>n-(intOf kk).toNat)
 case atStart=>exact ⟨0,_,_,rfl,Nat.zero_le _,rfl,hbq,HS0,HF0⟩
 case round =>
  obtain ⟨k,zv,st,rfl,hk,rfl,hq,HOK,HF⟩:=hrel;obtain ⟨s,q⟩:=st;have hqn:q.length≤n:=HOK.out.le;have hsn:s.length=n:=HOK.out.len;have hiq:(iL q).length=q.length:=by simp [iL]
  obtain ⟨aq,cq,rfl⟩:=hq.qu.form;rw [hiq] at hq;rw [hiq];have hk:k≤q.length:=hk;generalize hql:q.length=m at *;have HQL:=zTD hql;have HSN:=zTD hsn;clear hql hsn hiq;by_cases hkm:k<m
  ·obtain ⟨j,hj⟩:∃j,q[k]? = some j:=⟨q[k]'(by rw [HQL.out]; exact hkm),zTE _⟩;have hjn:j<n:=HOK.out.lt j (zTF hj);have i3:(k:Int)<(m:Int):=by omega
   have hqc:∃g',aq=some ⟨g',0,none⟩∧wr.cell? ⟨g',k,none⟩=some (.int .i64 j):=by
    obtain ⟨g',e1,_,_⟩:=FI.head hq.qu (by omega);subst e1;refine ⟨g',rfl,FI.cell hq.qu (x:=(j:Int)) (by simp [iL,hj]) hkm⟩
   obtain ⟨g',rfl,hcq⟩:=hqc;have hstep:=HBF.out (n-k) k j (s,q) hj;rw [show n-k+1=n+1-k by omega,HF.out] at hstep;have HF2:=zTD hstep;have hnb:=hNB wr hq.bl j hjn;have HOK0:Hid (SnOk n (s,q)):=HOK;clear hstep hj;go_wp2_with fail
   refine hnb.mono ?_;rintro e w8 ⟨r8,rfl,f8,b8⟩;have hq8:=hq.below b8;have hap:BQ w w8 wr.heap.size w8.heap.size w.heap.size n (.slice (some ⟨g',0,none⟩) m cq) (s,q):=⟨hq8.ms,hq8.qu,hq8.bl,fun b hb=>.inl (hq.qu.1.lt b hb).2,zTI _⟩;obtain ⟨a8,c8,rfl⟩:=f8.form;have hL:RI (Bt wr.heap.size w8.heap.size) w8 (.slice a8 (iL (nbr c j)).length c8) (iL (nbr c j)):=f8.reads;have hLlen:(iL (nbr c j)).length=(nbr c j).length:=by simp [iL]
   rw [hLlen] at hL ⊢;have hLn:(nbr c j).length≤n:=by
    have:=zDl c j c.length;rw [show iL (zAy c j c.length)=iL (nbr c j) from rfl,hLlen,HN.out] at this;exact this
   have HLM:Hid (∀k∈nbr c j,k<n):=zTD (fun k hk=>by have:=HLT.out j k hk; exact this);clear f8 hq8 hq hLlen hnb b8;generalize nbr c j=L at *;generalize hll:L.length=ll at *;have HLL:=zTD hll;clear hll;generalize hlo:wr.heap.size=lo at *;generalize hhi:w8.heap.size=hi8 at *;clear hlo hhi;have HP0:Hid ((L.take 0).foldl zAf (s,q)=(s,q)):=zTD rfl;have HPL:Hid ((L.take ll).foldl zAf (s,q)=L.foldl zAf (s,q)):=zTD (by rw [<-HLL.out,List.take_of_length_le (zTI _)]);have HPS:Hid (∀(t:Nat) (x:Nat),L[t]? = some x→(L.take (t+1)).foldl zAf (s,q)=zAf ((L.take t).foldl zAf (s,q)) x):=zTD (fun t x hx=>by rw [zAP hx,List.foldl_append]; rfl);have HPO:Hid (∀t,SnOk n ((L.take t).foldl zAf (s,q))∧q.length≤((L.take t).foldl zAf (s,q)).2.length):=zTD (fun t=>zEl HOK0.out (fun j hj=>HLM.out j (List.mem_of_mem_take hj)))
   go_wp2_with fail
   go_loopw [6,9] (fun zz tt wi=>∃(t:Nat) (zv:Value) (st:Sn),zv=zz∧t≤ll∧tt=.int .i64 t∧BQ w wi lo hi8 w.heap.size n zv st∧RI (Bt lo hi8) wi (.slice a8 ll c8) (iL L)∧Hid ((L.take t).foldl zAf (s,q)=st)) (fun _ tt _=>ll-(intOf tt).toNat)
   case atStart=>exact ⟨0,_,(s,q),rfl,Nat.zero_le _,rfl,hap,hL,HP0⟩
   case round =>
    obtain ⟨t,zv,st,rfl,ht,rfl,hq,hL,HST⟩:=hrel;obtain ⟨s1,q1⟩:=st;by_cases htl:t<ll
    ·obtain ⟨x,hx⟩:∃x,L[t]? = some x:=⟨L[t]'(by rw [HLL.out]; exact htl),zTE _⟩;have hxn:x<n:=HLM.out x (zTF hx);have i4:(t:Int)<(ll:Int):=by omega
     obtain ⟨bl,ol,y,e9,hcl,hy⟩:=RI.at hL htl;have hyx:y=(x:Int):=by
      have:=hy.out;simp only [iL,List.getElem?_map,hx,Option.map_some,Option.some.injEq] at this;exact this.symm
     subst hyx;subst e9;have hO:=(HPO.out t).1;rw [HST.out] at hO;have hs1:s1.length=n:=hO.len;have hq1:q1.length≤n:=hO.le;have hstep:=HPS.out t x hx;rw [HST.out] at hstep;obtain ⟨v,hv⟩:∃v,s1[x]? = some v:=⟨s1[x]'(by omega),zTE _⟩;have hcv:=hq.ms.cell hs1 hv;have hfz:=hq.ms.froz hs1 x;have i5:(0:Int)≤(x:Int):=by omega
     have i6:(x:Int)<(n:Int):=by omega
     cases v with
     | true =>
      have HS2:Hid ((L.take (t+1)).foldl zAf (s,q)=(s1,q1)):=zTD (by rw [hstep]; unfold zAf; rw [if_pos (by rw [hv]; rfl)]);clear hstep hv;go_wp2_with fail
      go_roundw
      case rel=>exact ⟨t+1,_,(s1,q1),rfl,by omega,by go_num,hq,hL,HS2⟩
      case measure=>simp [intOf]; omega
     | false =>
      have HS2:Hid ((L.take (t+1)).foldl zAf (s,q)=(s1.set x true,q1++[x])):=zTD (by rw [hstep]; unfold zAf; rw [if_neg (by rw [hv]; simp)]);have hiq1:(iL q1).length=q1.length:=by simp [iL]
      obtain ⟨aq1,cq1,rfl⟩:=hq.qu.form;rw [hiq1] at hq ⊢;have hq4:=hq.mark hs1 x true;have htag:=hq.ms.tag (b:=w.heap.size) rfl;have hL4:=hL.setB (j:=x) (x:=.bool true) htag;have hcl4:(wr.setCell ⟨w.heap.size,x,none⟩ (.bool true)).cell? ⟨bl,ol+t,none⟩=some (.int .i64 x):=by
       obtain ⟨b2,o2,y2,e2,hc2,hy2⟩:=RI.at hL4 htl;simp only [Option.some.injEq,Addr.mk.injEq,and_true] at e2;obtain ⟨rfl,rfl⟩:=e2;have e3:=hy2.out.symm.trans hy.out;simp only [Option.some.injEq] at e3;rw [hc2,e3]
      have hz4:(wr.setCell ⟨w.heap.size,x,none⟩ (.bool true)).heap.size=wr.heap.size:=zAM _ _ _;obtain ⟨w5,hw5⟩:∃w5,w5=(wr.setCell ⟨w.heap.size,x,none⟩ (.bool true)).alloc (.cells #[.int .i64 x] 3):=⟨_,rfl⟩;have b5:Below (wr.setCell ⟨w.heap.size,x,none⟩ (.bool true)).heap.size (wr.setCell ⟨w.heap.size,x,none⟩ (.bool true)) w5:=by rw [hw5]; exact (Below.refl _ _).alloc (zTI _) _
      have hc5:w5.cell? ⟨wr.heap.size,0,none⟩=some (.int .i64 x):=by rw [<-hz4,hw5]; go_simp
      have hq5:=hq4.below b5;have hL5:=hL4.below b5;have HW5:=zTD hw5;have HV:=zTD hv;have hql1:(iL q1).length+1≤67108864:=by rw [hiq1]; omega
      clear hstep hv hw5;go_wp2_with (at_builtin; go_must (rw [<-HW5.out]; refine zFq (W:=w) rfl _ _ rfl rfl hq5.qu hq5.bl rfl hc5 hql1 ?_))
      intro v6 w6 f6 b6 g6 o6;have hq6:=hq4.pushed (j:=x) b5 f6 b6 g6 o6;have hL6:=hL5.grownO g6 (fun b hb=>hq5.ap b hb);go_wp2_with fail
      go_roundw
      case rel=>exact ⟨t+1,_,(s1.set x true,q1++[x]),rfl,by omega,by go_num,hq6,hL6,HS2⟩
      case measure=>simp [intOf]; omega
    ·have htl2:t=ll:=by omega
     have i4:¬(t:Int)<(ll:Int):=by omega
     have hend:=HST.out;rw [htl2,HPL.out] at hend;rw [hend] at HF2;have hO:=(HPO.out t).1;have hO2:=(HPO.out t).2;rw [HST.out] at hO hO2;have HO:=zTD hO;have hO2:m≤q1.length:=by rw [HQL.out] at hO2; exact hO2
     have hq0:BQ w wr 0 0 w.heap.size n zv (s1,q1):=⟨hq.ms,hq.qu,hq.bl,fun b _=>.inr (Nat.zero_le _),Nat.zero_le _⟩;clear htl2 hend hO;go_wp2_with fail
     go_roundw
     case rel=>exact ⟨k+1,_,(s1,q1),rfl,by show k+1≤q1.length; omega,by go_num,hq0,HO,by rw [show n+1-(k+1)=n-k by omega]; exact zTD HF2.out.symm⟩
     case measure=>simp [intOf]; omega
  ·have hkm2:k=m:=by omega
   have i3:¬(k:Int)<(m:Int):=by omega
   have hend:=HBE.out (n+1-k) k (s,q) (by rw [HQL.out]; omega);rw [HF.out] at hend;have hres:=HRES.out;rw [hend] at hres;have HN2:Hid (iL ((List.range n).filter fun k=>(s[k]?).getD false)=iL (zBq c i)):=zTD hres.symm;have HFS:=zTD (zMI (fun k=>(s[k]?).getD false));have HFN:=zTD (zOc (fun k=>(s[k]?).getD false));have H0:Hid (iL ((List.range 0).filter fun k=>(s[k]?).getD false)=[]):=zTD (by simp);have hms:=hq.ms;have hbl:=hq.bl;clear hend hres hq HBF HBE hNB HRES HF HOK;obtain ⟨w4,hw4⟩:∃w4,w4=wr.alloc (.cells #[] 3):=⟨_,rfl⟩;obtain ⟨f4,b4⟩:=zAN hbl hw4;have bb4:Below wr.heap.size wr w4:=by rw [hw4]; exact (Below.refl _ wr).alloc (zTI _) _
   have hms4:=hms.grow bb4;go_wp2_with fail
   rw [<-hw4];clear hw4;rw [<-H0.out] at f4;go_loopw [10,11] (fun zz kk wi=>∃(t:Nat) (zv:Value),zv=zz∧t≤n∧kk=.int .i64 t∧FI (New w wi) wi zv (iL ((List.range t).filter fun k=>(s[k]?).getD false))∧FBo (New w wi) wi (.slice (some ⟨w.heap.size,0,none⟩) n n) s∧Below w.heap.size w wi) (fun _ kk _=>n-(intOf kk).toNat)
   case atStart=>exact ⟨0,_,rfl,Nat.zero_le _,rfl,f4,hms4,b4⟩
   case round =>
    obtain ⟨t,zv,rfl,ht,rfl,hf,hms,hb⟩:=hrel;by_cases htn:t<n
    ·have i4:(t:Int)<(n:Int):=by omega
     obtain ⟨v,hv⟩:∃v,s[t]? = some v:=⟨s[t]'(by rw [HSN.out]; exact htn),zTE _⟩;have hcv:=hms.cell HSN.out hv;have hst:=HFS.out t;rw [hv] at hst;have hlen:=HFN.out t;cases v with
     | false =>
      have HS3:Hid (iL ((List.range (t+1)).filter fun k=>(s[k]?).getD false)=iL ((List.range t).filter fun k=>(s[k]?).getD false)):=zTD (by rw [hst]; simp);clear hst hv hlen;go_wp2_with fail
      go_roundw
      case rel=>exact ⟨t+1,_,rfl,by omega,by go_num,by rw [HS3.out]; exact hf,hms,hb⟩
      case measure=>simp [intOf]; omega
     | true =>
      have HS3:Hid (iL ((List.range (t+1)).filter fun k=>(s[k]?).getD false)=iL ((List.range t).filter fun k=>(s[k]?).getD false)++[(t:Int)]):=zTD (by rw [hst]; simp);have hl2:(iL ((List.range t).filter fun k=>(s[k]?).getD false)).length+1≤67108864:=by omega
      generalize iL ((List.range t).filter fun k=>(s[k]?).getD false)=acc at *;clear hst hv hlen;have bb:∀wr:World,Below wr.heap.size wr (wr.alloc (.cells #[.int .i64 t] 3)):=fun wr=>(Below.refl wr.heap.size wr).alloc (zTI _) _;go_wp2_with (at_builtin; go_must (refine zAL (W:=w) rfl _ _ rfl rfl (hf.grow (bb _)) (zAC.step hb (bb _)) rfl (RI.one _ t) ?_ ?_))
      ·simpa using hl2
      ·intro v' w5 f5 b5 hg5;have hsz:=hg5.size;have hms5:=((hms.grow (bb wr)).grown (hf.grow (bb wr)) hg5).mono (S':=New w w5) (fun b hb=>⟨hb.1,by have:=hb.2; omega⟩);go_wp2_with fail
       go_roundw
       case rel=>exact ⟨t+1,_,rfl,by omega,by go_num,by rw [HS3.out]; exact f5,hms5,b5⟩
       case measure=>simp [intOf]; omega
    ·have htn2:t=n:=by omega
     have i4:¬(t:Int)<(n:Int):=by omega
     rw [htn2,HN2.out] at hf;clear htn2;go_wp2_with fail
     go_ret
     exact ⟨_,rfl,hf,hb⟩
theorem zNA {S:Nat→Prop} {u:Value} {c:List (List Int)} {w:World} (h:RII S w u c) (hc:isC c=true) (hl:total c≤16777216) :
  Calls Tryz.prog 47 #[u] w fun e w'=>∃r,e=.returned r∧FR (New w w') w' r ((zGf c).map iL)∧Below w.heap.size w w':=by
 have h4:c.length≤4:=(zAS.1 hc).le;have hC:=fun w1 (b1:Below w.heap.size w w1)=>zAr (h.below b1) hl;simp only [hc] at hC;have hP:=fun (wr:World) (hb:Below w.heap.size w wr) (j:Nat) (hj:j<c.length)=>zLV (i:=j) (h.below hb) hc hj hl;have HST:Hid (∀k,(zA2 c (k+1)).map iL=(zA2 c k).map iL++if (zBq c k).head? = some k then [iL (zBq c k)] else []):=zTD (fun k=>by rw [zJH,List.map_append]; split <;> rfl);have HLEN:Hid (∀k,((zA2 c k).map iL).length≤k):=zTD (fun k=>by rw [List.length_map]; exact zJs c k);have H0:Hid ((zA2 c 0).map iL=[]):=zTD (by simp [zA2]);have HNN:Hid ((zA2 c c.length).map iL=(zGf c).map iL):=zTD rfl;have HSELF:Hid (∀k,k<c.length→∃a l,zBq c k=a::l):=zTD (fun k hk=>by
  have:=zM9 (c:=c) hk;cases e:zBq c k with
  | nil=>rw [e] at this; simp at this
  | cons a l=>exact ⟨a,l,rfl⟩)
 have HPL:Hid (∀k,(zBq c k).length≤c.length):=zTD (fun k=>Nat.le_trans (List.length_filter_le _ _) (by simp));clear hc;obtain ⟨au,cu,rfl⟩:=h.form;generalize hn:c.length=n at *;clear hn;go_enter Tryz.func47,Tryz.ntmps47
 go_wp2_with fail
 obtain ⟨w1,hw1⟩:∃w1,w1=w.alloc (.cells #[] 29):=⟨_,rfl⟩;obtain ⟨f1,b1⟩:=FR.empty_of (Below.refl _ w) hw1;rw [<-hw1];clear hw1;rw [<-H0.out] at f1;go_loopw [3,4] (fun zz j wr=>∃(k:Nat) (z:Value),z=zz∧k≤n∧j=.int .i64 k∧FR (New w wr) wr z ((zA2 c k).map iL)∧Below w.heap.size w wr) (fun _ j _=>n-(intOf j).toNat)
 case atStart=>exact ⟨0,_,rfl,Nat.zero_le _,rfl,f1,b1⟩
 case round =>
  obtain ⟨k,z,rfl,hk,rfl,hf,hb⟩:=hrel;by_cases hkn:k<n
  ·have i1:(k:Int)<(n:Int):=by omega
   have hst:=HST.out k;have hlen:=HLEN.out k;obtain ⟨a,l,hal⟩:=HSELF.out k hkn;have hpl:=HPL.out k;go_wp2_with fail
   refine (hC wr hb).mono ?_;rintro e w2 ⟨rfl,m2,hm2⟩;have b2:Below wr.heap.size wr w2:=zAu ⟨m2,hm2⟩;clear hm2;have hb2:=zAC.step hb b2;have hf2:=hf.grow b2;go_wp2_with fail
   refine (hP w2 hb2 k hkn).mono ?_;rintro e w3 ⟨r3,rfl,f3,b3⟩;have hb3:=zAC.step hb2 b3;have hf3:=hf2.grow b3;rw [hal] at f3 hst hpl;obtain ⟨a3,c3,rfl⟩:=f3.form;have hle3:(iL (a::l)).length=l.length+1:=by simp [iL]
   rw [hle3] at f3 ⊢;obtain ⟨g3,rfl,hS3,_⟩:=FI.head f3 (by omega);have hc3:=FI.cell f3 (k:=0) (x:=(a:Int)) (by simp [iL]) (by omega);have hll:l.length+1≤n:=by simpa using hpl
   have hlp:0<l.length+1:=by omega
   clear hpl;by_cases hak:a=k
   ·have HS3:Hid ((zA2 c (k+1)).map iL=(zA2 c k).map iL++[iL (a::l)]):=zTD (by rw [hst,if_pos (by rw [hak]; rfl)]);have j1:((a:Int) == (k:Int))=true:=by simp [hak]
    clear hst hak hal;have hln:((zA2 c k).map iL).length+1≤67108864:=by omega
    have hy:RI (New w w3) w3 (.slice (some ⟨g3,0,none⟩) (l.length+1) c3) (iL (a::l)):=f3.reads.mono (fun b hb'=>⟨Nat.le_trans hb2.size hb'.1,hb'.2⟩);generalize l.length+1=ly at *;have bb:Below w3.heap.size w3 (w3.alloc (.cells #[.slice (some ⟨g3,0,none⟩) ly c3] 29)):=(Below.refl _ _).alloc (zTI _) _;have hcn:(w3.alloc (.cells #[.slice (some ⟨g3,0,none⟩) ly c3] 29)).cell? ⟨w3.heap.size,0,none⟩=some (.slice (some ⟨g3,0,none⟩) ly c3):=by go_simp
    have i9:(0:Int)<(ly:Int):=by omega
    go_wp2_with (at_builtin; go_must (refine zBg (W:=w) rfl _ _ rfl rfl (hf3.grow bb) (zAC.step hb3 bb) rfl hcn ((hy.below bb).mono (fun b hb'=>⟨hb'.1,Nat.lt_of_lt_of_le hb'.2 bb.size⟩)) hln ?_))
    intro v' w4 f4 b4 _;go_wp2_with fail
    go_roundw
    case rel=>exact ⟨k+1,_,rfl,by omega,by go_num,by rw [HS3.out]; exact f4,b4⟩
    case measure=>simp [intOf]; omega
   ·have HS3:Hid ((zA2 c (k+1)).map iL=(zA2 c k).map iL):=zTD (by rw [hst,if_neg (by simp; exact hak),List.append_nil]);have j1:((a:Int) == (k:Int))=false:=by simp; omega
    clear hst hak hal;generalize l.length+1=ly at *;have i9:(0:Int)<(ly:Int):=by omega
    go_wp2_with fail
    go_roundw
    case rel=>exact ⟨k+1,_,rfl,by omega,by go_num,by rw [HS3.out]; exact hf3,hb3⟩
    case measure=>simp [intOf]; omega
  ·have hkm:k=n:=by omega
   have i1:¬(k:Int)<(n:Int):=by omega
   rw [hkm,HNN.out] at hf;clear hkm;go_wp2_with fail
   go_ret
   exact ⟨_,rfl,hf,hb⟩
end Go.Proofs.YtlgcdacpjcnjgaaGreatDoor
