/- Places that arrows reach, and the sets of places that reach one another: marks and a queue. Plain lists. -/
import Derived.Test.YtlgcdacpjcnjgaaGreatDoorJGWgS
namespace Go.Proofs.YtlgcdacpjcnjgaaGreatDoor
open Go.RowKit
set_option maxRecDepth 20000
set_option maxHeartbeats 8000000
abbrev Bq:=List Bool × List Nat
def zAW (st:Bq) (j:Nat):Bq:=if st.1[j]? = some false then (st.1.set j true,st.2++[j]) else st
def zLK (nx:Nat→List Nat) (q:Nat) (st:Bq):Bq:=(nx q).foldl zAW st
def zAv (nx:Nat→List Nat):Nat→Nat→Bq→Bq
 | 0,_,st=>st
 |f+1,k,st=>match st.2[k]? with
  | none=>st
  | some q=>zAv nx f (k+1) (zLK nx q st)
def br0 (n x:Nat):Bq:=((List.replicate n false).set x true,[x])
def zA0 (nx:Nat→List Nat) (n x:Nat):List Bool:=(zAv nx (n+1) 0 (br0 n x)).1
inductive Rcx (nx:Nat→List Nat) (x:Nat):Nat→Prop
 | start:Rcx nx x x
 | more {y z:Nat}:Rcx nx x y→z∈nx y→Rcx nx x z
theorem Rcx.trans {nx:Nat→List Nat} {x y z:Nat} (h:Rcx nx x y) (k:Rcx nx y z):Rcx nx x z:=by
 induction k with
 | start=>exact h
 | more _ hz ih=>exact ih.more hz
structure BrOk (n:Nat) (st:Bq):Prop where
 len:st.1.length=n
 nd:st.2.Nodup
 mem:∀y,st.1[y]? = some true↔y∈st.2
theorem zLJ {n x:Nat} (hx:x<n):BrOk n (br0 n x):=by
 refine ⟨by simp [br0],by simp [br0],fun y=>?_⟩;unfold br0;by_cases h:y=x
 ·subst h; simp [hx]
 ·rw [List.getElem?_set_ne (Ne.symm h),List.getElem?_replicate];simp only [List.mem_singleton,h,iff_false];split <;> simp
theorem zEn {n:Nat} {st:Bq} (h:BrOk n st) {j:Nat} (hj:j<n):BrOk n (zAW st j)∧(∀y,y∈(zAW st j).2↔y∈st.2∨y=j)∧∃T,(zAW st j).2=st.2++T:=by
 unfold zAW;by_cases hf:st.1[j]? = some false
 ·rw [if_pos hf];have hnot:j∉st.2:=fun hm=>by rw [(h.mem j).2 hm] at hf; cases hf
  refine ⟨⟨by rw [List.length_set]; exact h.len,?_,fun y=>?_⟩,fun y=>by simp,_,rfl⟩
  ·rw [List.nodup_append];exact ⟨h.nd,by simp,fun a ha b hb e=>by simp only [List.mem_singleton] at hb; subst hb; subst e; exact hnot ha⟩
  ·by_cases e:y=j
   ·subst e;rw [List.getElem?_set_self (by rw [h.len]; exact hj)];simp
   ·rw [List.getElem?_set_ne (Ne.symm e),h.mem];simp [e]
 ·rw [if_neg hf];have ht:st.1[j]? = some true:=by
   have hl:j<st.1.length:=by rw [h.len]; exact hj
   rw [zTE hl] at hf ⊢;cases e:st.1[j] with
   | true=>rfl
   | false=>rw [e] at hf; exact absurd rfl hf
  have hm:=(h.mem j).1 ht;exact ⟨h,fun y=>⟨.inl,fun hy=>hy.elim id (fun e=>e ▸ hm)⟩,[],by simp⟩
theorem zIW {n:Nat}:∀{L:List Nat} {st:Bq},BrOk n st→(∀j∈L,j<n)→BrOk n (L.foldl zAW st)∧(∀y,y∈(L.foldl zAW st).2↔y∈st.2∨y∈L)∧∃T,(L.foldl zAW st).2=st.2++T
 | [],st,h,_=>⟨h,fun y=>by simp,[],by simp⟩
 | j::L,st,h,hL=>by
  obtain ⟨h1,h2,T1,h3⟩:=zEn h (hL j (List.mem_cons_self ..));obtain ⟨k1,k2,T2,k3⟩:=zIW (L:=L) h1 (fun i hi=>hL i (List.mem_cons_of_mem _ hi));refine ⟨k1,fun y=>?_,T1++T2,by rw [List.foldl_cons,k3,h3,List.append_assoc]⟩;rw [List.foldl_cons,k2,h2,List.mem_cons];exact or_assoc
theorem zE4:∀{n:Nat} {l:List Nat},l.Nodup→(∀x∈l,x<n)→l.length≤n
 | 0,l,_,h=>by
  cases l with
  | nil=>simp
  | cons a l=>have:=h a (List.mem_cons_self ..); omega
 | n+1,l,hn,h=>by
  have h1:=zE4 (n:=n) (l:=l.erase n) (hn.erase n) (fun x hx=>by
   have:=h x (List.mem_of_mem_erase hx);have h2:x≠n:=fun e=>by subst e; exact (List.Nodup.not_mem_erase hn) hx
   omega)
  rw [List.length_erase] at h1;split at h1 <;> omega
theorem BrOk.lt {n:Nat} {st:Bq} (h:BrOk n st) {y:Nat} (hy:y∈st.2):y<n:=by
 have:=(h.mem y).2 hy;rw [<-h.len];exact (zTG this).1
theorem BrOk.few {n:Nat} {st:Bq} (h:BrOk n st):st.2.length≤n:=zE4 h.nd (fun _ hx=>h.lt hx)
theorem zIV {nx:Nat→List Nat} {n x:Nat} (hnx:∀q,q<n→∀j∈nx q,j<n):∀(f k:Nat) {st:Bq},n+1≤f+k→BrOk n st→x∈st.2→(∀y∈st.2,Rcx nx x y)→(∀j q,j<k→st.2[j]? = some q→∀z∈nx q,z∈st.2) →
  BrOk n (zAv nx f k st)∧∀y,y∈(zAv nx f k st).2↔Rcx nx x y
 | 0,k,st,hf,h,hx,hr,hc=>by
  have hk:st.2.length≤k:=by have:=h.few; omega
  refine ⟨h,fun y=>⟨hr y,fun hy=>?_⟩⟩;show y∈st.2
  induction hy with
  | start=>exact hx
  | more _ hz ih =>
   obtain ⟨j,hj,e⟩:=List.getElem_of_mem ih;exact hc j _ (by omega) (by rw [zTE hj,e]) _ hz
 | f+1,k,st,hf,h,hx,hr,hc=>by
  unfold zAv;cases hq:st.2[k]? with
  | none =>
   have hk:st.2.length≤k:=by rw [List.getElem?_eq_none_iff] at hq; exact hq
   refine ⟨h,fun y=>⟨hr y,fun hy=>?_⟩⟩;show y∈st.2
   induction hy with
   | start=>exact hx
   | more _ hz ih =>
    obtain ⟨j,hj,e⟩:=List.getElem_of_mem ih;exact hc j _ (by omega) (by rw [zTE hj,e]) _ hz
  | some q =>
   have hqm:=zTF hq;obtain ⟨h1,h2,T,h3⟩:=zIW (L:=nx q) h (hnx q (h.lt hqm));refine zIV hnx f (k+1) (by omega) h1 ((h2 x).2 (.inl hx)) (fun y hy=>?_) (fun j q' hj hq' z hz=>?_)
   ·rcases (h2 y).1 hy with hy | hy
    ·exact hr y hy
    ·exact (hr q hqm).more hy
   ·show z∈((nx q).foldl zAW st).2;rw [h2];have hq':((nx q).foldl zAW st).2[j]? = some q':=hq';have hjl:j<st.2.length:=by have:=(zTG hq).1; omega
    rw [h3,List.getElem?_append_left hjl] at hq';rcases Nat.lt_or_ge j k with hjk | hjk
    ·exact .inl (hc j q' hjk hq' z hz)
    ·have:j=k:=by omega
     subst this;rw [hq] at hq';cases hq';exact .inr hz
theorem zDQ {nx:Nat→List Nat} {n x:Nat} (hnx:∀q,q<n→∀j∈nx q,j<n) (hx:x<n):(zA0 nx n x).length=n∧∀y,(zA0 nx n x)[y]? = some true↔Rcx nx x y:=by
 obtain ⟨h1,h2⟩:=zIV (x:=x) hnx (n+1) 0 (by omega) (zLJ hx) (by simp [br0]) (fun y hy=>by simp [br0] at hy; subst hy; exact .start) (fun j q hj=>by omega);exact ⟨h1.len,fun y=>by rw [<-h2 y]; exact h1.mem y⟩
def mutB (nx:Nat→List Nat) (n i k:Nat):Bool:=((zA0 nx n i)[k]?).getD false && ((zA0 nx n k)[i]?).getD false
theorem zDi {l:List Bool} {k:Nat}:(l[k]?).getD false=true↔l[k]? = some true:=by
 cases l[k]? <;> simp
theorem zB2 {nx:Nat→List Nat} {n i k:Nat} (hnx:∀q,q<n→∀j∈nx q,j<n) (hi:i<n) (hk:k<n):mutB nx n i k=true↔Rcx nx i k∧Rcx nx k i:=by
 unfold mutB;rw [Bool.and_eq_true,zDi,zDi,(zDQ hnx hi).2,(zDQ hnx hk).2]
structure EqvB (n:Nat) (m:Nat→Nat→Bool):Prop where
 self:∀i,i<n→m i i=true
 symm:∀i k,i<n→k<n→m i k=true→m k i=true
 trans:∀i k j,i<n→k<n→j<n→m i k=true→m k j=true→m i j=true
theorem zEK {nx:Nat→List Nat} {n:Nat} (hnx:∀q,q<n→∀j∈nx q,j<n):EqvB n (mutB nx n) :=
 ⟨fun _ hi=>(zB2 hnx hi hi).2 ⟨.start,.start⟩,fun _ _ hi hk h=>(zB2 hnx hk hi).2 ((zB2 hnx hi hk).1 h).symm,
  fun _ _ _ hi hk hj h h'=>(zB2 hnx hi hj).2 ⟨((zB2 hnx hi hk).1 h).1.trans ((zB2 hnx hk hj).1 h').1,((zB2 hnx hk hj).1 h').2.trans ((zB2 hnx hi hk).1 h).2⟩⟩
def zAX (m:Nat→Nat→Bool) (n i:Nat):List Nat:=(List.range n).filter (m i)
def celS (m:Nat→Nat→Bool) (n:Nat):Nat→List (List Nat)
 | 0=>[]
 | i+1=>if (zAX m n i)[0]? = some i then celS m n i++[zAX m n i] else celS m n i
def zBJ:List Nat→List Bool→List Bool
 | [],s=>s
 | j::l,s=>zBJ l (s.set j true)
def celI (m:Nat→Nat→Bool) (n:Nat):Nat→List Bool × List (List Nat)
 | 0=>(List.replicate n false,[])
 | i+1=>if ((celI m n i).1[i]?).getD false then celI m n i else (zBJ (zAX m n i) (celI m n i).1,(celI m n i).2++[zAX m n i])
theorem zEz:∀(l:List Nat) (s:List Bool),(zBJ l s).length=s.length
 | [],_=>rfl
 | j::l,s=>by show (zBJ l (s.set j true)).length=_; rw [zEz l,List.length_set]
theorem zHh:∀{l:List Nat} {s:List Bool},(∀j∈l,j<s.length)→∀k,(zBJ l s)[k]? = if k∈l then some true else s[k]?
 | [],s,_,k=>by simp [zBJ]
 | j::l,s,h,k=>by
  show (zBJ l (s.set j true))[k]? = _;rw [zHh (fun i hi=>by rw [List.length_set]; exact h i (List.mem_cons_of_mem _ hi))];by_cases e:k=j
  ·subst e;rw [List.getElem?_set_self (h k (List.mem_cons_self ..)),if_pos (List.mem_cons_self ..)];split <;> rfl
  ·rw [List.getElem?_set_ne (Ne.symm e)];simp [e]
theorem zBD {m:Nat→Nat→Bool} {n i k:Nat}:k∈zAX m n i↔k<n∧m i k=true:=by unfold zAX; simp
theorem zEB {m:Nat→Nat→Bool} {n i:Nat} (h:EqvB n m) (hi:i<n):∃a,(zAX m n i)[0]? = some a∧a≤i∧m i a=true∧∀k,k<n→m i k=true→a≤k:=by
 have him:i∈zAX m n i:=zBD.2 ⟨hi,h.self i hi⟩;have hs:(zAX m n i).Pairwise (· < ·):=List.Pairwise.filter _ List.pairwise_lt_range;cases e:zAX m n i with
 | nil=>rw [e] at him; simp at him
 | cons a l =>
  rw [e] at hs;have hle:∀k∈a::l,a≤k:=fun k hk=>by
   rcases List.mem_cons.1 hk with rfl | hk
   ·exact zTI _
   ·exact Nat.le_of_lt ((List.pairwise_cons.1 hs).1 k hk)
  have ha:a∈zAX m n i:=by rw [e]; exact List.mem_cons_self ..
  exact ⟨a,rfl,hle i (e ▸ him),(zBD.1 ha).2,fun k hk hm=>hle k (e ▸ zBD.2 ⟨hk,hm⟩)⟩
theorem zIa {m:Nat→Nat→Bool} {n:Nat} (h:EqvB n m):∀i,i≤n→(celI m n i).2=celS m n i∧(celI m n i).1.length=n∧∀k,k<n→((celI m n i).1[k]? = some true↔∃i',i'<i∧m i' k=true)
 | 0,_=>⟨rfl,by simp [celI],fun k hk=>by simp [celI,hk]⟩
 | i+1,hi=>by
  obtain ⟨h1,h2,h3⟩:=zIa h i (by omega);obtain ⟨a,ha,hai,hma,hmin⟩:=zEB h (show i<n by omega);have han:a<n:=by omega
  unfold celI celS;rw [ha];by_cases hs:((celI m n i).1[i]?).getD false=true
  ·rw [if_pos hs];obtain ⟨i',hi',hm'⟩:=(h3 i (by omega)).1 (zDi.1 hs);have:a≤i':=hmin i' (by omega) (h.symm i' i (by omega) (by omega) hm');rw [if_neg (by simp only [Option.some.injEq]; omega)];refine ⟨h1,h2,fun k hk=>⟨fun hk'=>?_,fun ⟨j,hj,hm⟩=>?_⟩⟩
   ·obtain ⟨j,hj,hm⟩:=(h3 k hk).1 hk';exact ⟨j,by omega,hm⟩
   ·rcases Nat.lt_or_ge j i with hlt | hge
    ·exact (h3 k hk).2 ⟨j,hlt,hm⟩
    ·have:j=i:=by omega
     subst this;exact (h3 k hk).2 ⟨i',hi',h.trans i' j k (by omega) (by omega) hk hm' hm⟩
  ·rw [if_neg hs];have hai':a=i:=by
    rcases Nat.lt_or_ge a i with hlt | hge
    ·exact absurd (zDi.2 ((h3 i (by omega)).2 ⟨a,hlt,h.symm i a (by omega) han hma⟩)) hs
    ·omega
   subst hai';rw [if_pos rfl];refine ⟨by rw [h1],by rw [zEz]; exact h2,fun k hk=>?_⟩;show (zBJ (zAX m n a) (celI m n a).1)[k]? = some true↔_;rw [zHh (fun j hj=>by rw [h2]; exact (zBD.1 hj).1)];by_cases hc:k∈zAX m n a
   ·rw [if_pos hc];exact ⟨fun _=>⟨a,by omega,(zBD.1 hc).2⟩,fun _=>rfl⟩
   ·rw [if_neg hc,h3 k hk];exact ⟨fun ⟨j,hj,hm⟩=>⟨j,by omega,hm⟩,fun ⟨j,hj,hm⟩=>by
     rcases Nat.lt_or_ge j a with hlt | hge
     ·exact ⟨j,hlt,hm⟩
     ·have:j=a:=by omega
      subst this;exact absurd (zBD.2 ⟨hk,hm⟩) hc⟩
def nxA (L:List Arw) (q:Nat):List Nat:=(L.filter fun a=>decide (a.1=q)).map fun a=>a.2.1
def zA3 (q:Nat) (st:Bq) (a:Arw):Bq:=if a.1=q then zAW st a.2.1 else st
theorem zGC (q:Nat):∀(L:List Arw) (st:Bq),L.foldl (zA3 q) st=zLK (nxA L) q st
 | [],st=>rfl
 | a::L,st=>by
  rw [List.foldl_cons,zGC q L];unfold zLK nxA zA3;by_cases h:a.1=q
  ·rw [if_pos h,List.filter_cons_of_pos (by simpa using h),List.map_cons,List.foldl_cons]
  ·rw [if_neg h,List.filter_cons_of_neg (by simpa using h)]
theorem zC7 {L:List Arw} {n:Nat} (hL:∀a∈L,a.1<n∧a.2.1<n) (q:Nat):∀j∈nxA L q,j<n:=fun j hj=>by
 obtain ⟨a,ha,rfl⟩:=List.mem_map.1 hj;exact (hL a (List.mem_filter.1 ha).1).2
structure RcOk (n k q:Nat) (st:Bq):Prop where
 ok:BrOk n st
 pos:st.2[k]? = some q
theorem zLz {n k q:Nat} {st:Bq} (h:RcOk n k q st) {a:Arw} (ha:a.2.1<n):RcOk n k q (zA3 q st a):=by
 unfold zA3;split
 ·obtain ⟨h1,_,T,h2⟩:=zEn h.ok ha;refine ⟨h1,?_⟩;rw [h2,List.getElem?_append_left (zTG h.pos).1];exact h.pos
 ·exact h
theorem zIU {l:List Nat} {k q:Nat} (h:l[k]? = some q):(l.map fun (j:Nat)=>(j:Int))[k]? = some (q:Int):=by rw [List.getElem?_map,h]; rfl
theorem HSx.madeB {A:Nat→Prop} {w0 w w2:World} {Ps:List zAI} {n:Nat} (h:HSx A w0 w Ps) (hown:w2.ownsRow w.heap.size 4 1 (.slice (some ⟨w.heap.size,0,none⟩) n n) n (madeCells #[.bool false] n).toList) (hgr:w.grownBy w2 none) :
  HSx A w0 w2 (Ps++[aB (.slice (some ⟨w.heap.size,0,none⟩) n n) (List.replicate n false)]):=by
 have hb1:Below w.heap.size w w2:=(Below.refl _ w).grown hgr (zTI _) (by simp);have hsz:w.heap.size<w2.heap.size:=(hown.lt _ rfl).2;have e1:(madeCells #[.bool false] n).toList=(List.replicate n false).map Value.bool:=by rw [toList_madeCells_one,List.map_replicate]
 rw [e1] at hown;exact h.add hb1 (st_B _ _) (F:=fun b=>b=w.heap.size) ⟨by rw [List.length_replicate]; exact zBp hown (Nat.zero_le _),fun b hb=>by simpa [Value.ownBlock] using hb.symm⟩ (fun b hb=>by subst hb; exact ⟨zTI _,hsz⟩)
theorem zKT {A:Nat→Prop} {w0 w w1:World} {Ps:List zAI} (h:HSx A w0 w Ps) (x:Int) (hw:w1=w.alloc (.cells #[.int .i64 x] 3)):HSx A w0 w1 (Ps++[aI (.slice (some ⟨w.heap.size,0,none⟩) 1 1) [x]]):=by
 subst hw;refine h.add ((Below.refl _ _).alloc (zTI _) _) (st_I _ _) (F:=fun b=>b=w.heap.size) ⟨?_,fun b hb=>by simpa [Value.ownBlock] using hb.symm⟩ (fun b hb=>by subst hb; exact ⟨zTI _,by simp⟩);exact World.ownsRow_lit (base:=0) (e:=3) (size:=1) w #[.int .i64 x] 1 (Nat.zero_le _) (by unfold maxLen; omega) rfl
theorem zNG {S:Nat→Prop} {va:Value} {L:List Arw} {n x:Nat} {w:World} (hA:FA S w va L) (hL:∀a∈L,a.1<n∧a.2.1<n) (hx:x<n) (hn:n≤24) (hm:L.length≤576) :
  Calls Tryz.prog 28 #[va,.int .i64 n,.int .i64 x] w fun e w'=>∃r,e=.returned r∧FBo (New w w') w' r (zA0 (nxA L) n x)∧Below w.heap.size w w':=by
 have mixed:Tryz.prog.follows .mixedOrders=true:=by kernel_rfl
 obtain ⟨aa,ca,rfl⟩:=F3.form hA;have HA:=zTD (fun (wv:World) (hb:Below w.heap.size w wv)=>F3.below hA hb);have HLT:=zTD hL;have HOUT:Hid (zA0 (nxA L) n x=(zAv (nxA L) (n+1) 0 (br0 n x)).1):=zTD rfl;have HROW:=zTD (fun q st=>zGC q L st);have HOK0:Hid (zAv (nxA L) (n+1-0) 0 (br0 n x)=zAv (nxA L) (n+1) 0 (br0 n x)∧BrOk n (br0 n x)):=zTD ⟨rfl,zLJ hx⟩;have HB0:Hid (br0 n x=((List.replicate n false).set x true,[x])):=zTD rfl;obtain ⟨i0,hi0,hz0,hz1,hz2⟩:=info_parts zDY;unfold FA at hA;generalize hml:L.length=m at *;have HML:=zTD hml;have i1:(x:Int)<(n:Int):=by omega
 have i2:(0:Int)≤(x:Int):=by omega
 clear hA hL hml;go_enter Tryz.func28,Tryz.ntmps28
 go_wp2_with (at_make; (refine wpList_make_full _ rfl _ _ 47 rfl w.heap.size 4 i0 (.bool false) 1 Tryz.underlying47 hi0 hz0 hz1 _ _ _ _ n rfl rfl rfl rfl ?hb ?hm ?hs ?_))
 case hb=>rw [hz2]; omega
 case hm=>unfold maxLen; omega
 case hs=>exact zTI _
 intro w1 hown hgr;have hs1:=HSx.madeB (HS.nil (Below.refl _ w)) hown hgr;have hs1:HS w w1 [aB (.slice (some ⟨w.heap.size,0,none⟩) n n) (List.replicate n false)]:=hs1;obtain ⟨d1,d2⟩:=HS.cellB hs1 0 rfl (by simp) (j:=x) (x:=false) (by rw [List.getElem?_replicate,if_pos hx]);have hs2:=HS.putB hs1 0 rfl (by simp) x true;clear hown hgr hi0 hz0 hz1 hz2 hs1;generalize hG:w.heap.size=G at *;have HA:=zTD (fun (wv:World) (hb:Below w.heap.size w wv)=>HA.out wv (by rw [<-hG]; exact hb));have HG:=zTD hG;clear hG;obtain ⟨w3,hw3⟩:∃w3,w3=(w1.setCell ⟨G,x,none⟩ (.bool true)).alloc (.cells #[.int .i64 x] 3):=⟨_,rfl⟩;have hs3:=zKT hs2 (x:Int) hw3;have hsz:(w1.setCell ⟨G,x,none⟩ (.bool true)).heap.size=w1.heap.size:=zAM _ _ _;rw [hsz] at hs3
 have hs3:HS w w3 [aB (.slice (some ⟨G,0,none⟩) n n) (br0 n x).1,aI (.slice (some ⟨w1.heap.size,0,none⟩) 1 1) ((br0 n x).2.map fun (j:Nat)=>(j:Int))]:=by rw [HB0.out]; exact hs3
 have HW3:=zTD hw3;clear hs2 hw3 hsz HB0;go_wp2_with fail
 rw [<-HW3.out];clear d1 d2;go_loopw [8,9] (fun qq kk wr=>∃(k:Nat) (vq:Value) (st:Bq),vq=qq∧k≤st.2.length∧k≤n∧kk=.int .i64 k∧HS w wr [aB (.slice (some ⟨G,0,none⟩) n n) st.1,aI vq (st.2.map fun (j:Nat)=>(j:Int))]∧Hid (zAv (nxA L) (n+1-k) k st=zAv (nxA L) (n+1) 0 (br0 n x)∧BrOk n st)) (fun _ kk _=>n-(intOf kk).toNat)
 case atStart=>exact ⟨0,_,_,rfl,Nat.zero_le _,Nat.zero_le _,rfl,hs3,HOK0⟩
 case round =>
  clear hs3 HOK0;obtain ⟨k,vq,st,rfl,hks,hkn,rfl,hs,HOK⟩:=hrel;obtain ⟨aq,cq,rfl⟩:=HS.formI hs 1 rfl;rw [List.length_map] at hs ⊢;have hfew:=HOK.out.2.few;by_cases hk:k<st.2.length
  ·have j1:(k:Int)<(st.2.length:Int):=by omega
   obtain ⟨q,hq⟩:∃q,st.2[k]? = some q:=⟨_,zTE hk⟩;have HNEXT:Hid (zAv (nxA L) (n+1-(k+1)) (k+1) (L.foldl (zA3 q) st)=zAv (nxA L) (n+1) 0 (br0 n x)):=zTD (by
    have h1:=HOK.out.1;rw [show n+1-k=(n+1-(k+1))+1 by omega] at h1;unfold zAv at h1;rw [hq] at h1;rw [HROW.out q st];exact h1)
   have HR0:Hid (RcOk n k q ((L.take 0).foldl (zA3 q) st)):=zTD ⟨HOK.out.2,hq⟩;have hs:HS w wr [aB (.slice (some ⟨G,0,none⟩) n n) ((L.take 0).foldl (zA3 q) st).1,aI (.slice aq st.2.length cq) (((L.take 0).foldl (zA3 q) st).2.map fun (j:Nat)=>(j:Int))]:=hs;have HFIN:Hid ((L.take m).foldl (zA3 q) st=L.foldl (zA3 q) st):=zTD (by rw [List.take_of_length_le (by rw [HML.out]; exact zTI _)]);have HST:=zTD (fun (i:Nat) (a:Arw) (h:L[i]? = some a)=>(show (L.take (i+1)).foldl (zA3 q) st=zA3 q ((L.take i).foldl (zA3 q) st) a by rw [zAP h,List.foldl_append]; rfl));clear HOK hq;have hkn2:k<n:=by omega
   generalize hsl:st.2.length=sl at *;clear hsl;go_wp2_with fail
   go_loopw [8,10] (fun qq ii wr=>∃(i:Nat) (vq:Value),vq=qq∧i≤m∧ii=.int .i64 i∧HS w wr [aB (.slice (some ⟨G,0,none⟩) n n) ((L.take i).foldl (zA3 q) st).1,aI vq (((L.take i).foldl (zA3 q) st).2.map fun (j:Nat)=>(j:Int))]∧Hid (RcOk n k q ((L.take i).foldl (zA3 q) st))) (fun _ ii _=>m-(intOf ii).toNat)
   case atStart=>exact ⟨0,_,rfl,Nat.zero_le _,rfl,hs,HR0⟩
   case round =>
    clear hs HR0;obtain ⟨i,vq,rfl,him,rfl,hs,HR⟩:=hrel;by_cases hi:i<m
    ·have k1:(i:Int)<(m:Int):=by omega
     have k2:(0:Int)≤(i:Int):=by omega
     have k3:(0:Int)≤(k:Int):=by omega
     obtain ⟨a,ha⟩:∃a,L[i]? = some a:=⟨L[i]'(by rw [HML.out]; exact hi),zTE _⟩;have HAI:=zTD ha;obtain ⟨ha1,ha2⟩:=HLT.out a (zTF ha);have HS1:=zTD (HST.out i a ha);obtain ⟨g,eg,_⟩:=F3.head (HA.out wr hs.bl) (by omega);subst eg;obtain ⟨f1,f2,_⟩:=zDX ha;have hf:=HA.out wr hs.bl;have c1:=F3.cell hf f1;have c2:=F3.cell hf f2;have HR2:=zTD (zLz HR.out (a:=a) ha2);have HAS:Hid (∀st:Bq,zA3 q st a=if a.1=q then zAW st a.2.1 else st):=zTD (fun st=>rfl);rw [<-HS1.out] at HR2;obtain ⟨f,t,mm⟩:=a;simp only at ha1 ha2 c1 c2 HAS;generalize hst2:(L.take (i+1)).foldl (zA3 q) st=st2 at *;have HST2:=zTD hst2;clear hst2;generalize (L.take i).foldl (zA3 q) st=st1 at *;obtain ⟨aq1,cq1,rfl⟩:=HS.formI hs 1 rfl;rw [List.length_map] at hs ⊢;have hlen1:=HR.out.ok.few;have hkl:=(zTG HR.out.pos).1;have HSI:=zTD hs
     obtain ⟨bq,cqq,eq1,_,_⟩:=HS.headI hs 1 rfl (by rw [List.length_map]; omega);simp only [Value.slice.injEq] at eq1;obtain ⟨eq2,eq3,eq4⟩:=eq1;subst eq2 eq4;clear eq3;obtain ⟨c3,_⟩:=HS.cellI hs 1 rfl (by rw [List.length_map]) (j:=k) (x:=(q:Int)) (zIU HR.out.pos);obtain ⟨sb,hsb⟩:∃sb,st1.1[t]? = some sb:=⟨_,zTE (by rw [HR.out.ok.len]; exact ha2)⟩;have hl1:=HR.out.ok.len;obtain ⟨c4,z4⟩:=HS.cellB hs 0 rfl hl1 hsb;have k4:(k:Int)<(st1.2.length:Int):=by omega
     have k5:(t:Int)<(n:Int):=by omega
     have k6:(0:Int)≤(t:Int):=by omega
     have hs2L:Hid (st1.2.length≤24):=zTD (by omega);clear f1 f2 hf HST hlen1;have HS1:=zTD (HS1.out.trans (HAS.out st1));have HSB:=zTD hsb;have HL1:=zTD hl1;clear HAS ha hsb hl1;generalize hq1:st1.2.length=l1 at *;have HQ1:=zTD hq1;clear hq1;have g1:=fun z:GW wr=>z.cell c1;have g2:=fun z:GW wr=>z.cell c2;have g3:=fun z:GW wr=>z.cell c3;have g4:=fun z:GW wr=>z.cell c4;by_cases hfq:f=q
     ·have e0:((f:Int) == (q:Int))=true:=by rw [beq_iff_eq]; omega
      have HS1:=zTD (HS1.out.trans (if_pos hfq));cases sb with
      | true =>
       have HE:Hid (st2=st1):=zTD (by rw [HS1.out]; unfold zAW; rw [if_neg (by rw [HSB.out]; simp)]);clear hfq;go_wp2_with fail
       refine zBT (by kernel_rfl) (by kernel_rfl) ?_
       repeat (go_big_quiet_step (fail))
       refine wpQuiet_nil ?_;intro w6 hb6;have hs6:=HSx.below hs hb6;clear g1 g2 g3 g4 c1 c2 c3 c4 z4 hs hb6;go_wp2_with fail
       go_roundw
       case rel=>exact ⟨i+1,_,rfl,by omega,by go_num,by rw [HST2.out,HE.out]; exact hs6,by rw [HST2.out]; exact HR2⟩
       case measure=>simp [intOf]; omega
      | false =>
       have HE:Hid (st2=(st1.1.set t true,st1.2++[t])):=zTD (by rw [HS1.out]; unfold zAW; rw [if_pos HSB.out]);clear hfq;go_wp2_with fail
       refine zBT (by kernel_rfl) (by kernel_rfl) ?_
       repeat (go_big_quiet_step (fail))
       refine wpQuiet_nil ?_;intro w6 hb6;have hs6:=HSx.below hs hb6;obtain ⟨d4,y4⟩:=HS.cellB hs6 0 rfl HL1.out HSB.out;have d1:=F3.cell (HA.out w6 hs6.bl) (zDX (L:=L) (k:=i) (a:=(f,t,mm)) HAI.out).2.1;have hs7:=HS.putB hs6 0 rfl HL1.out t true;have hs7:HS w (w6.setCell ⟨G,t,none⟩ (.bool true)) [aB (.slice (some ⟨G,0,none⟩) n n) (st1.1.set t true),aI (.slice (some ⟨bq,0,none⟩) l1 cq1) (st1.2.map fun (j:Nat)=>(j:Int))]:=hs7;have d2:=F3.cell (HA.out _ hs7.bl) (zDX (L:=L) (k:=i) (a:=(f,t,mm)) HAI.out).2.1;obtain ⟨w8,hw8⟩:∃w8,w8=(w6.setCell ⟨G,t,none⟩ (.bool true)).alloc (.cells #[.int .i64 t] 3):=⟨_,rfl⟩;have hs8:=HSx.alloc hs7 (.cells #[.int .i64 t] 3);rw [<-hw8] at hs8;have hsz:(w6.setCell ⟨G,t,none⟩ (.bool true)).heap.size=w6.heap.size:=zAM _ _ _
       have hc8:w8.cell? ⟨w6.heap.size,0,none⟩=some (.int .i64 t):=by rw [hw8,<-hsz]; go_simp
       have HW8:=zTD hw8;have HLN:Hid ((st1.2.map fun (j:Nat)=>(j:Int)).length+1≤67108864):=zTD (by have:=hs2L.out; have:=HQ1.out; rw [List.length_map]; omega);have HE2:Hid (st2.2.map (fun (j:Nat)=>(j:Int))=(st1.2.map fun (j:Nat)=>(j:Int))++[(t:Int)]∧st2.1=st1.1.set t true):=zTD (by rw [HE.out]; exact ⟨by simp,rfl⟩);clear g1 g2 g3 g4 c1 c2 c3 c4 z4 hs hb6 hw8 hs6 hs7 hsz;go_wp2_with (at_builtin; go_must (rw [<-HW8.out]; refine zAd rfl _ _ rfl rfl hs8 1 rfl rfl hc8 HLN.out ?_))
       intro v9 w9 hs9;have hs9:HS w w9 [aB (.slice (some ⟨G,0,none⟩) n n) st2.1,aI v9 (st2.2.map fun (j:Nat)=>(j:Int))]:=by rw [HE2.out.1,HE2.out.2]; exact hs9
       clear hs8 hc8 d1 d2 d4 y4;go_wp2_with fail
       go_roundw
       case rel=>exact ⟨i+1,v9,rfl,by omega,by go_num,by rw [HST2.out]; exact hs9,by rw [HST2.out]; exact HR2⟩
       case measure=>simp [intOf]; omega
     ·have e0:((f:Int) == (q:Int))=false:=by rw [beq_eq_false_iff_ne]; omega
      have HE:Hid (st2=st1):=zTD (HS1.out.trans (if_neg hfq));clear hfq;go_wp2_with fail
      refine zBT (by kernel_rfl) (by kernel_rfl) ?_
      repeat (go_big_quiet_step (fail))
      refine wpQuiet_nil ?_;intro w6 hb6;have hs6:=HSx.below hs hb6;clear g1 g2 g3 g4 c1 c2 c3 c4 z4 hs hb6;go_wp2_with fail
      go_roundw
      case rel=>exact ⟨i+1,_,rfl,by omega,by go_num,by rw [HST2.out,HE.out]; exact hs6,by rw [HST2.out]; exact HR2⟩
      case measure=>simp [intOf]; omega
    ·have k1:¬(i:Int)<(m:Int):=by omega
     have him2:i=m:=by omega
     rw [him2,HFIN.out] at hs HR;have HOKN:Hid (zAv (nxA L) (n+1-(k+1)) (k+1) (L.foldl (zA3 q) st)=zAv (nxA L) (n+1) 0 (br0 n x)∧BrOk n (L.foldl (zA3 q) st)):=zTD ⟨HNEXT.out,HR.out.ok⟩;have hkl:=(zTG HR.out.pos).1;clear him2 HR HNEXT HFIN HST;go_wp2_with fail
     go_roundw
     case rel=>exact ⟨k+1,vq,_,rfl,by omega,by omega,by go_num,hs,HOKN⟩
     case measure=>simp [intOf]; omega
  ·have j1:¬(k:Int)<(st.2.length:Int):=by omega
   have HE:Hid (st=zAv (nxA L) (n+1) 0 (br0 n x)):=zTD (by
    have h1:=HOK.out.1;rw [show n+1-k=(n-k)+1 by omega] at h1;unfold zAv at h1;rw [List.getElem?_eq_none (by omega)] at h1;exact h1)
   rw [HE.out,<-HOUT.out] at hs;have hfb:=HS.B hs 0 rfl;have hbl:=hs.bl;clear hs HE;go_wp2_with fail
   go_ret
   exact ⟨_,rfl,hfb,hbl⟩
abbrev Zb:=List (Value × List Bool)
abbrev aBr (Z:Zb):zAI:=fun F w=>∀x∈Z,FBo F w x.1 x.2
theorem zPw (Z:Zb):zAg (aBr Z):=fun _ _ _ h k x hx=>⟨zAk (h x hx).1 fun b hb=>k b ((h x hx).2 b hb) ((h x hx).1.lt b hb).2,(h x hx).2⟩
theorem zHb:(Tryz.prog.info? 47).map (fun i=>(i.zero,i.size,i.bytes))=some (some (.slice none 0 0),1,24):=by kernel_rfl
section
variable {A:Nat→Prop} {w0 w w1:World} {Ps:List zAI}
theorem HSx.noBr (h:HSx A w0 w Ps):HSx A w0 w (Ps++[aBr []]):=h.add (Below.refl _ w) (zPw []) (F:=NoB) (fun x hx=>by simp at hx) (fun b hb=>hb.elim)
theorem zKU (h:HSx A w0 w Ps) (e:TypeId) (hw:w1=w.alloc (.cells #[] e)):HSx A w0 w1 (Ps++[aV e (.slice (some ⟨w.heap.size,0,none⟩) 0 0) []]):=by
 subst hw;refine h.add ((Below.refl _ _).alloc (zTI _) _) (st_V _ _ _) (F:=fun b=>b=w.heap.size) ⟨?_,fun b hb=>by simpa [Value.ownBlock] using hb.symm⟩ (fun b hb=>by subst hb; exact ⟨zTI _,by simp⟩);exact World.ownsRow_lit (base:=0) (e:=e) (size:=1) w #[] 0 (Nat.zero_le _) (by unfold maxLen; omega) rfl
theorem HSx.moreBr {Z:Zb} {r:Value} {l:List Bool} (h:HSx A w0 w Ps) (j k:Nat) (hjk:j≠k) (hj:Ps[j]? = some (aBr Z)) (hk:Ps[k]? = some (aB r l)) :
  HSx A w0 w ((Ps.set j (aBr (Z++[(r,l)]))).set k zCI):=by
 refine h.join j k hjk hj hk (zPw _) fun F G hF hG hd x hx=>?_;rcases List.mem_append.1 hx with hx | hx
 ·exact FBo.mono (hF x hx) (fun b hb=>.inl hb)
 ·rw [List.mem_singleton] at hx;subst hx;exact FBo.mono hG (fun b hb=>.inr hb)
theorem HSx.cellBr {Z:Zb} {v:Value} {n:Nat} (h:HSx A w0 w Ps) (i j:Nat) (hi:Ps[i]? = some (aV 47 v (Z.map Prod.fst))) (hj:Ps[j]? = some (aBr Z)) (hZ:Z.length=n) {u k:Nat} {r:Value} {l:List Bool} {b:Bool} (hx:Z[u]? = some (r,l)) (hl:l.length=n) (hb:l[k]? = some b) :
  ∃g cap g2 c2,v=.slice (some ⟨g,0,none⟩) n cap∧w.cell? ⟨g,u,none⟩=some (.slice (some ⟨g2,0,none⟩) n c2)∧w.cell? ⟨g2,k,none⟩=some (.bool b):=by
 have hu:=(zTG hx).1;obtain ⟨g,cap,rfl⟩:=(HSx.formV h i hi).2 (by rw [List.length_map]; omega);rw [List.length_map,hZ] at hi ⊢;have h1:=(HSx.cellV h i hi (j:=u) (r:=r) (by rw [List.getElem?_map,hx]; rfl)).1;obtain ⟨F,hF,_⟩:=HSx.get h j hj;have hf:FBo F w r l:=hF _ (zTF hx);have hk:=(zTG hb).1;obtain ⟨g2,c2,rfl,_,_⟩:=hf.head (by omega);refine ⟨g,cap,g2,c2,rfl,?_,hf.cell rfl hb⟩;rw [h1,hl]
end
def iN (l:List Nat):List Int:=l.map fun (j:Nat)=>(j:Int)
abbrev mutC (c:List (List Int)):Nat→Nat→Bool:=mutB (nxA (wgR c)) (elL c).length
def lcR (c:List (List Int)):List (List Int):=if okK c=true then (celS (mutC c) (elL c).length (elL c).length).map iN else []
theorem zGr {c:List (List Int)} (hk:okK c=true):∀a∈wgR c,a.1<(elL c).length∧a.2.1<(elL c).length:=by
 unfold wgR;rw [if_pos hk];exact zSp _ _ _ _ (zTI _)
theorem zGE (m:Nat→Nat→Bool) (_n i k:Nat):((List.range (k+1)).filter (m i))=(List.range k).filter (m i)++(if m i k=true then [k] else []):=by
 rw [List.range_succ,List.filter_append];congr 1;by_cases h:m i k=true
 ·rw [if_pos h]; simp [h]
 ·rw [if_neg h]; simp [h]
theorem zMs {L:List Arw} {n i k:Nat} {b1 b2:Bool} (h1:(zA0 (nxA L) n i)[k]? = some b1) (h2:(zA0 (nxA L) n k)[i]? = some b2):mutB (nxA L) n i k=(b1 && b2):=by unfold mutB; rw [h1,h2]; rfl
theorem zCi (m:Nat→Nat→Bool) (n:Nat):∀i,(celS m n i).length≤i
 | 0=>by simp [celS]
 | i+1=>by
  unfold celS;have:=zCi m n i;split
  ·simp; omega
  ·omega
theorem zBy (m:Nat→Nat→Bool) (n i:Nat):(zAX m n i).length≤n:=by
 unfold zAX;have:=List.length_filter_le (m i) (List.range n);rwa [List.length_range] at this
theorem zKc {c:List (List Int)} (hk:okK c=true):szC c=(elL c).length:=by
 obtain ⟨_,h2,h3,h4,_⟩:=zBl hk;rw [h4,zIj h2 h3]
theorem zIx {S:Nat→Prop} {x:Value} {c:List (List Int)} {w:World} (h:RII S w x c) (hl:total c≤16777216) :
  Calls Tryz.prog 7 #[x] w fun e w'=>∃r,e=.returned (.tuple #[r,.bool (okK c)])∧FII (New w w') w' r (lcR c)∧Below w.heap.size w w':=by
 have mixed:Tryz.prog.follows .mixedOrders=true:=by kernel_rfl
 have HWG:=zTD (fun (wv:World) (hb:Below w.heap.size w wv)=>zNm (h.below hb) hl);have HSZ:=zTD (fun (wv:World) (hb:Below w.heap.size w wv)=>zF5 (h.below hb) hl);obtain ⟨aa,ca,rfl⟩:=h.form;clear h;obtain ⟨w1,hw1⟩:∃w1,w1=w.alloc (.cells #[] 29):=⟨_,rfl⟩;have hs1:=(zAj (HS.nil (Below.refl _ w)) hw1).add (Below.refl _ _) (zA7 []) (F:=NoB) ⟨fun x hx=>by simp at hx,List.Pairwise.nil⟩ (fun b hb=>hb.elim);have hs1:HS w w1 [aV 29 (.slice (some ⟨w.heap.size,0,none⟩) 0 0) (([]:Zl).map Prod.fst),aRs []]:=hs1;have hwg:=HWG.out w1 hs1.bl;have HW1:=zTD hw1;clear hw1 HWG;cases hk:okK c with
 | false =>
  have HR:Hid (lcR c=[]):=zTD (by unfold lcR; rw [hk]; rfl);rw [hk] at hwg;clear hk HSZ;go_enter Tryz.func7,Tryz.ntmps7
  go_wp2_with fail
  rw [<-HW1.out];refine hwg.mono ?_;rintro e w2 ⟨p,rfl,_,b2⟩;have hs2:=HSx.below hs1 b2;have hs7:HS w w2 [aF (.slice (some ⟨w.heap.size,0,none⟩) 0 0) (([]:Zl).map Prod.snd)]:=((HSx.shutF hs2 (Z:=[]) (v:=.slice (some ⟨w.heap.size,0,none⟩) 0 0) 0 1 (by decide) rfl rfl).pick [0] (by decide));have hfa:=HS.F hs7 0 rfl;have hbl:=hs2.bl;clear hwg;go_wp2_with fail
  go_ret2
  exact ⟨_,rfl,by rw [HR.out]; exact hfa,hbl⟩
 | true =>
  have HR:Hid (lcR c=(celS (mutC c) (elL c).length (elL c).length).map iN):=zTD (by unfold lcR; rw [if_pos hk]);have HTO:=zTD (zGr hk);have HWL:=zTD (zHE c);have hN24:=(KlOk.of hk).few;rw [zKc hk] at HSZ;rw [hk] at hwg;unfold mutC at HR;generalize lcR c=res at *;generalize wgR c=L at *;generalize (elL c).length=N at *;have HEQ:Hid (EqvB N (mutB (nxA L) N)):=zTD (zEK (fun q _=>zC7 HTO.out q));have HBL:=zTD (fun (i:Nat) (hi:i<N)=>(zDQ (x:=i) (fun q (_:q<N)=>zC7 HTO.out q) hi).1);clear hk;go_enter Tryz.func7,Tryz.ntmps7
  go_wp2_with fail
  rw [<-HW1.out];refine hwg.mono ?_;rintro e w2 ⟨va,rfl,fa,b2⟩;have hs2:=HSx.add hs1 b2 (st_A va L) fa (fun _ h=>h);have hs2:HS w w2 [aV 29 (.slice (some ⟨w.heap.size,0,none⟩) 0 0) (([]:Zl).map Prod.fst),aRs [],aA va L]:=hs2;have hsz:=HSZ.out w2 hs2.bl;clear hwg hs1 fa b2 HSZ;go_wp2_with fail
  refine hsz.mono ?_;rintro e w3 ⟨rfl,b3⟩;have hs3:=HSx.below hs2 b3;clear hsz hs2 b3;obtain ⟨w4,hw4⟩:∃w4,w4=w3.alloc (.cells #[] 47):=⟨_,rfl⟩;have hs4:=(zKU hs3 47 hw4).noBr;have hs4:HS w w4 [aV 29 (.slice (some ⟨w.heap.size,0,none⟩) 0 0) (([]:Zl).map Prod.fst),aRs [],aA va L,aV 47 (.slice (some ⟨w3.heap.size,0,none⟩) 0 0) (([]:Zb).map Prod.fst),aBr []]:=hs4;have HW4:=zTD hw4;have HB0:Hid (([]:Zb).map Prod.snd=(List.range 0).map (zA0 (nxA L) N)):=zTD rfl;clear hw4 hs3;go_wp2_with fail
  rw [<-HW4.out];go_loopw [8,9] (fun oo ii wr=>∃(i:Nat) (vo:Value) (B:Zb),vo=oo∧i≤N∧ii=.int .i64 i∧HS w wr [aV 29 (.slice (some ⟨w.heap.size,0,none⟩) 0 0) (([]:Zl).map Prod.fst),aRs [],aA va L,aV 47 vo (B.map Prod.fst),aBr B]∧Hid (B.map Prod.snd=(List.range i).map (zA0 (nxA L) N))) (fun _ ii _=>N-(intOf ii).toNat)
  case atStart=>exact ⟨0,_,[],rfl,Nat.zero_le _,rfl,hs4,HB0⟩
  case round =>
   clear hs4 HB0;obtain ⟨i,vo,B,rfl,hiN,rfl,hs,HB⟩:=hrel;by_cases hi:i<N
   ·have i1:(i:Int)<(N:Int):=by omega
    have hrc:=zNG (HS.Ar hs 2 rfl) HTO.out hi hN24 HWL.out;have HBN:Hid (∀r,(B++[(r,zA0 (nxA L) N i)]).map Prod.snd=(List.range (i+1)).map (zA0 (nxA L) N)):=zTD (fun r=>by rw [List.map_append,HB.out,List.range_succ,List.map_append]; rfl);have HLB:Hid ((B.map Prod.fst).length+1≤67108864):=zTD (by have:=congrArg List.length HB.out; simp at this; simp; omega);have HQL:=zTD (HBL.out i hi);generalize zA0 (nxA L) N i=q at *;go_wp2_with fail
    refine hrc.mono ?_;rintro e w5 ⟨r5,rfl,f5,b5⟩;obtain ⟨g5,c5,e5,_,_⟩:=f5.head (by rw [HQL.out]; omega);rw [HQL.out] at e5;subst e5;have hs5:=HSx.addB hs b5 f5;have hs5:HS w w5 [aV 29 (.slice (some ⟨w.heap.size,0,none⟩) 0 0) (([]:Zl).map Prod.fst),aRs [],aA va L,aV 47 vo (B.map Prod.fst),aBr B,aB (.slice (some ⟨g5,0,none⟩) N c5) q]:=hs5;obtain ⟨w6,hw6⟩:∃w6,w6=w5.alloc (.cells #[(.slice (some ⟨g5,0,none⟩) N c5)] 47):=⟨_,rfl⟩;have hs6:=HSx.alloc hs5 (.cells #[(.slice (some ⟨g5,0,none⟩) N c5)] 47);rw [<-hw6] at hs6;have hc6:w6.cell? ⟨w5.heap.size,0,none⟩=some (.slice (some ⟨g5,0,none⟩) N c5):=by rw [hw6]; go_simp
    have HW6:=zTD hw6;have HNV:=zTD (HS.newV hs6 3 rfl);clear hrc hs f5 b5 hs5 hw6;go_wp2_with (at_builtin; go_must (rw [<-HW6.out]; refine zCg rfl _ _ Tryz.underlying45 zHb rfl (by decide) rfl rfl hs6 3 rfl HNV.out rfl hc6 rfl HLB.out ?_))
    intro v7 w7 hs7 _;have hs8:=(HSx.moreBr hs7 4 5 (by decide) rfl rfl).pick [0,1,2,3,4] (by decide);have hs8:HS w w7 [aV 29 (.slice (some ⟨w.heap.size,0,none⟩) 0 0) (([]:Zl).map Prod.fst),aRs [],aA va L,aV 47 v7 ((B++[((Value.slice (some ⟨g5,0,none⟩) N c5),q)]).map Prod.fst),aBr (B++[((Value.slice (some ⟨g5,0,none⟩) N c5),q)])]:=by rw [List.map_append]; exact hs8
    clear hs6 hc6 hs7;go_wp2_with fail
    go_roundw
    case rel=>exact ⟨i+1,v7,_,rfl,by omega,by go_num,hs8,zTD (HBN.out (.slice (some ⟨g5,0,none⟩) N c5))⟩
    case measure=>simp [intOf]; omega
   ·have i1:¬(i:Int)<(N:Int):=by omega
    have hiN2:i=N:=by omega
    rw [hiN2] at HB;have hBl:B.length=N:=by have:=congrArg List.length HB.out; simpa using this
    have HBA:=zTD (fun (u:Nat) (hu:u<N)=>(show ∃r,B[u]? = some (r,zA0 (nxA L) N u) from by
     obtain ⟨⟨r,l⟩,hx⟩:∃y,B[u]? = some y:=⟨B[u]'(by rw [hBl]; exact hu),zTE _⟩;have h1:=congrArg (fun l=>l[u]?) HB.out;simp only [List.getElem?_map,hx,List.getElem?_range hu,Option.map_some,Option.some.injEq] at h1;exact ⟨r,by rw [hx]; exact congrArg (fun z=>some (r,z)) h1⟩))
    have HBL2:=zTD hBl;have HZ0:Hid (([]:Zl).map Prod.snd=(celS (mutB (nxA L) N) N 0).map iN):=zTD rfl;clear hiN2 HB hBl;go_wp2_with fail
    go_loopw [4,11] (fun oo ii wr=>∃(i:Nat) (v1:Value) (Z:Zl),v1=oo∧i≤N∧ii=.int .i64 i∧HS w wr [aV 29 v1 (Z.map Prod.fst),aRs Z,aA va L,aV 47 vo (B.map Prod.fst),aBr B]∧Hid (Z.map Prod.snd=(celS (mutB (nxA L) N) N i).map iN)) (fun _ ii _=>N-(intOf ii).toNat)
    case atStart=>exact ⟨0,_,[],rfl,Nat.zero_le _,rfl,hs,HZ0⟩
    case round =>
     clear hs HZ0;obtain ⟨i,v1,Z,rfl,hiN,rfl,hs,HZ⟩:=hrel;by_cases hi:i<N
     ·have i1:(i:Int)<(N:Int):=by omega
      have i0:(0:Int)≤(i:Int):=by omega
      obtain ⟨w5,hw5⟩:∃w5,w5=wr.alloc (.cells #[] 3):=⟨_,rfl⟩;have hs5:=zBe hs hw5;have hs5:HS w w5 [aV 29 v1 (Z.map Prod.fst),aRs Z,aA va L,aV 47 vo (B.map Prod.fst),aBr B,aI (.slice (some ⟨wr.heap.size,0,none⟩) 0 0) (iN ((List.range 0).filter (mutB (nxA L) N i)))]:=hs5;have HW5:=zTD hw5;clear hw5 hs;go_wp2_with fail
      rw [<-HW5.out];have HNX:=zTD (fun (k:Nat)=>zGE (mutB (nxA L) N) N i k);have HCF:Hid ((List.range N).filter (mutB (nxA L) N i)=zAX (mutB (nxA L) N) N i):=zTD rfl;have HHD:=zTD (zEB HEQ.out hi);have HCL:=zTD (zBy (mutB (nxA L) N) N i);have HCN:Hid (celS (mutB (nxA L) N) N (i+1)=if (zAX (mutB (nxA L) N) N i)[0]? = some i then celS (mutB (nxA L) N) N i++[zAX (mutB (nxA L) N) N i] else celS (mutB (nxA L) N) N i):=zTD rfl;have HSL:=zTD (zCi (mutB (nxA L) N) N i);go_loopw [12,13] (fun oo kk wr=>∃(k:Nat) (v2:Value),v2=oo∧k≤N∧kk=.int .i64 k∧HS w wr [aV 29 v1 (Z.map Prod.fst),aRs Z,aA va L,aV 47 vo (B.map Prod.fst),aBr B,aI v2 (iN ((List.range k).filter (mutB (nxA L) N i)))]) (fun _ kk _=>N-(intOf kk).toNat)
      case atStart=>exact ⟨0,_,rfl,Nat.zero_le _,rfl,hs5⟩
      case round =>
       clear hs5;obtain ⟨k,v2,rfl,hkN,rfl,hs⟩:=hrel;by_cases hk:k<N
       ·have j1:(k:Int)<(N:Int):=by omega
        have j0:(0:Int)≤(k:Int):=by omega
        obtain ⟨ri,hri⟩:=HBA.out i hi;obtain ⟨rk,hrk⟩:=HBA.out k hk;obtain ⟨b1,hb1⟩:∃b,(zA0 (nxA L) N i)[k]? = some b:=⟨_,zTE (by rw [HBL.out i hi]; exact hk)⟩;obtain ⟨b2,hb2⟩:∃b,(zA0 (nxA L) N k)[i]? = some b:=⟨_,zTE (by rw [HBL.out k hk]; exact hi)⟩;obtain ⟨g1,c1,g2,c2,e1,k1,k2⟩:=HSx.cellBr hs 3 4 rfl rfl HBL2.out hri (HBL.out i hi) hb1;obtain ⟨g3,c3,g4,c4,e2,k3,k4⟩:=HSx.cellBr hs 3 4 rfl rfl HBL2.out hrk (HBL.out k hk) hb2;rw [e1] at e2;simp only [Value.slice.injEq,Option.some.injEq,Addr.mk.injEq,and_true,true_and] at e2;obtain ⟨e3,e4⟩:=e2;subst e3 e4 e1;have hmu:=zMs hb1 hb2;have HN2:=zTD (HNX.out k);rw [hmu] at HN2;have hfl:((List.range k).filter (mutB (nxA L) N i)).length≤k:=by
         have:=List.length_filter_le (mutB (nxA L) N i) (List.range k);rwa [List.length_range] at this
        have HLL:Hid ((iN ((List.range k).filter (mutB (nxA L) N i))).length+1≤67108864):=zTD (by unfold iN; rw [List.length_map]; omega);have HMA:Hid (∀l,iN (l++[k])=iN l++[(k:Int)]):=zTD (fun l=>by simp [iN]);clear hri hrk hb1 hb2 hmu hfl;generalize (List.range k).filter (mutB (nxA L) N i)=fl at *;generalize hfn:(List.range (k+1)).filter (mutB (nxA L) N i)=fn at *;have HFN:=zTD hfn;clear hfn;by_cases hb:(b1 && b2)=true
        ·rw [Bool.and_eq_true] at hb;obtain ⟨rfl,rfl⟩:=hb;have HN3:Hid (fn=fl++[k]):=zTD HN2.out;obtain ⟨w6,hw6⟩:∃w6,w6=wr.alloc (.cells #[.int .i64 k] 3):=⟨_,rfl⟩;have hs6:=HSx.alloc hs (.cells #[.int .i64 k] 3);rw [<-hw6] at hs6;have hc6:w6.cell? ⟨wr.heap.size,0,none⟩=some (.int .i64 k):=by rw [hw6]; go_simp
         have HW6:=zTD hw6;clear hs hw6;go_wp2_with (at_builtin; go_must (rw [<-HW6.out]; refine zAd rfl _ _ rfl rfl hs6 5 rfl rfl hc6 HLL.out ?_))
         intro v7 w7 hs7;have hs7:HS w w7 [aV 29 v1 (Z.map Prod.fst),aRs Z,aA va L,aV 47 (.slice (some ⟨g1,0,none⟩) N c1) (B.map Prod.fst),aBr B,aI v7 (iN ((List.range (k+1)).filter (mutB (nxA L) N i)))]:=by rw [HFN.out,HN3.out,HMA.out]; exact hs7
         clear hs6 hc6;go_wp2_with fail
         go_roundw
         case rel=>exact ⟨k+1,v7,rfl,by omega,by go_num,hs7⟩
         case measure=>simp [intOf]; omega
        ·have HN3:Hid (fn=fl):=zTD (by rw [HN2.out,if_neg hb,List.append_nil]);have hs7:HS w wr [aV 29 v1 (Z.map Prod.fst),aRs Z,aA va L,aV 47 (.slice (some ⟨g1,0,none⟩) N c1) (B.map Prod.fst),aBr B,aI v2 (iN ((List.range (k+1)).filter (mutB (nxA L) N i)))]:=by rw [HFN.out,HN3.out]; exact hs
         clear hs;cases b1 with
         | false =>
          go_wp2_with fail
          go_roundw
          case rel=>exact ⟨k+1,v2,rfl,by omega,by go_num,hs7⟩
          case measure=>simp [intOf]; omega
         | true =>
          cases b2 with
          | true=>exact absurd rfl hb
          | false =>
           go_wp2_with fail
           go_roundw
           case rel=>exact ⟨k+1,v2,rfl,by omega,by go_num,hs7⟩
           case measure=>simp [intOf]; omega
       ·have j1:¬(k:Int)<(N:Int):=by omega
        have hkN2:k=N:=by omega
        rw [hkN2,HCF.out] at hs;obtain ⟨a,ha,_,_,_⟩:=HHD.out;have HIL:Hid ((iN (zAX (mutB (nxA L) N) N i)).length≤24∧0<(iN (zAX (mutB (nxA L) N) N i)).length∧(iN (zAX (mutB (nxA L) N) N i))[0]? = some (a:Int)):=zTD (by
         unfold iN;rw [List.length_map,List.getElem?_map,ha];refine ⟨by have:=HCL.out; omega,(zTG ha).1,rfl⟩)
        obtain ⟨g6,c6,e6,_,_⟩:=HS.headI hs 5 rfl HIL.out.2.1;subst e6;obtain ⟨k6,_⟩:=HS.cellI hs 5 rfl rfl HIL.out.2.2;have HHA:=zTD ha;clear hkN2 ha HHD HCF HNX;generalize zAX (mutB (nxA L) N) N i=cl at *;obtain ⟨ln,hln⟩:∃ln,(iN cl).length=ln:=⟨_,rfl⟩;rw [hln] at hs ⊢;have hl0:(0:Int)<(ln:Int):=by have:=HIL.out.2.1; omega
        have HLN:=zTD hln;clear hln;by_cases hai:a=i
        ·have e0:((a:Int) == (i:Int))=true:=by rw [beq_iff_eq]; omega
         have HC2:=zTD (HCN.out.trans (if_pos (by rw [HHA.out,hai])));have HZ2:Hid ((Z++[(Value.slice (some ⟨g6,0,none⟩) ln c6,iN cl)]).map Prod.snd=(celS (mutB (nxA L) N) N (i+1)).map iN):=zTD (by rw [HC2.out,List.map_append,List.map_append,HZ.out]; rfl);have HLZ:Hid ((Z.map Prod.fst).length+1≤67108864):=zTD (by have h1:=congrArg List.length HZ.out; have h2:=HSL.out; simp only [List.length_map] at h1; rw [List.length_map]; omega);obtain ⟨w6,hw6⟩:∃w6,w6=wr.alloc (.cells #[.slice (some ⟨g6,0,none⟩) ln c6] 29):=⟨_,rfl⟩;have hs6:=HSx.alloc hs (.cells #[.slice (some ⟨g6,0,none⟩) ln c6] 29);rw [<-hw6] at hs6;have hc6:w6.cell? ⟨wr.heap.size,0,none⟩=some (.slice (some ⟨g6,0,none⟩) ln c6):=by rw [hw6]; go_simp
         have HW6:=zTD hw6;have HNV:=zTD (HS.newV hs6 0 rfl);clear hs hw6 hai HCN HC2;go_wp2_with (at_builtin; go_must (rw [<-HW6.out]; refine zAH rfl _ _ rfl rfl hs6 0 rfl HNV.out rfl hc6 rfl HLZ.out ?_))
         intro v7 w7 hs7 _;have hs8:=(HSx.moreS hs7 1 5 (by decide) rfl rfl (Z':=Z++[(.slice (some ⟨g6,0,none⟩) ln c6,iN cl)]) (List.perm_append_singleton _ _)).pick [0,1,2,3,4] (by decide);have hs8:HS w w7 [aV 29 v7 ((Z++[(Value.slice (some ⟨g6,0,none⟩) ln c6,iN cl)]).map Prod.fst),aRs (Z++[(Value.slice (some ⟨g6,0,none⟩) ln c6,iN cl)]),aA va L,aV 47 vo (B.map Prod.fst),aBr B]:=by rw [List.map_append]; exact hs8
         clear hs6 hs7 hc6 k6;go_wp2_with fail
         go_roundw
         case rel=>exact ⟨i+1,v7,_,rfl,by omega,by go_num,hs8,HZ2⟩
         case measure=>simp [intOf]; omega
        ·have e0:((a:Int) == (i:Int))=false:=by rw [beq_eq_false_iff_ne]; omega
         have HC2:=zTD (HCN.out.trans (if_neg (by rw [HHA.out]; simp only [Option.some.injEq]; exact hai)));have HZ2:Hid (Z.map Prod.snd=(celS (mutB (nxA L) N) N (i+1)).map iN):=zTD (by rw [HC2.out]; exact HZ.out);have hs8:HS w wr [aV 29 v1 (Z.map Prod.fst),aRs Z,aA va L,aV 47 vo (B.map Prod.fst),aBr B]:=hs.pick [0,1,2,3,4] (by decide);clear hs hai HCN HC2;go_wp2_with fail
         go_roundw
         case rel=>exact ⟨i+1,v1,Z,rfl,by omega,by go_num,hs8,HZ2⟩
         case measure=>simp [intOf]; omega
     ·have i1:¬(i:Int)<(N:Int):=by omega
      have hiN2:i=N:=by omega
      rw [hiN2,<-HR.out] at HZ;have hs7:HS w wr [aF v1 (Z.map Prod.snd)]:=((HSx.shutF hs (Z:=Z) (v:=v1) 0 1 (by decide) rfl rfl).pick [0] (by decide));rw [HZ.out] at hs7;have hfa:=HS.F hs7 0 rfl;have hbl:=hs7.bl;clear hs hs7 hiN2 HZ;go_wp2_with fail
      go_ret2
      exact ⟨_,rfl,hfa,hbl⟩
end Go.Proofs.YtlgcdacpjcnjgaaGreatDoor
