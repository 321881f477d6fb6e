/- Terms in order with a polynomial each: such a list is known by its coefficients; adding a term; joining equal words in a sorted list. Plain lists. -/
import Derived.Test.YtlchafedbnihoaaGreatJGRow
namespace Go.Proofs.YtlchafedbnihoaaGreat
open Go.RowKit
theorem zEl (p:List Int):∀n,zAU p n=0∨num p (zAU p n-1)≠0
 | 0=>.inl rfl
 | n+1=>by
  unfold zAU;by_cases h:num p n=0
  ·rw [if_pos h]; exact zEl p n
  ·rw [if_neg h]; exact .inr (by rwa [Nat.add_sub_cancel])
theorem zFK (p:List Int):∀n k,zAU p n≤k→k<n→num p k=0
 | 0,k,_,h=>absurd h (Nat.not_lt_zero _)
 | n+1,k,h1,h2=>by
  unfold zAU at h1;by_cases h:num p n=0
  ·rw [if_pos h] at h1;by_cases hk:k=n
   ·rw [hk]; exact h
   ·exact zFK p n k h1 (by omega)
  ·rw [if_neg h] at h1; omega
theorem zEm (p:List Int):(trim p).length=zAU p p.length:=by
 have:=zDR p p.length;unfold trim; simp; omega
theorem zBC (p:List Int) (k:Nat):num (trim p) k=num p k:=by
 by_cases h:k<zAU p p.length
 ·unfold trim num;rw [List.getElem?_take,if_pos h]
 ·rw [zAu (by rw [zEm]; omega)];by_cases h2:k<p.length
  ·exact (zFK p p.length k (by omega) h2).symm
  ·exact (zAu (by omega)).symm
def Trd (p:List Int):Prop:=p=[]∨num p (p.length-1)≠0
theorem zBI (p:List Int):Trd (trim p):=by
 rcases zEl p p.length with h | h
 ·exact .inl (List.eq_nil_of_length_eq_zero (by rw [zEm,h]))
 ·exact .inr (by rw [zBC,zEm]; exact h)
theorem zDE {p q:List Int} (hp:Trd p) (hq:Trd q) (h:∀k,num p k=num q k):p=q:=by
 have key:∀{p q:List Int},Trd q→(∀k,num p k=num q k)→q.length≤p.length:=by
  intro p q hq h;rcases hq with rfl | hq
  ·exact Nat.zero_le _
  ·rcases Nat.lt_or_ge (q.length-1) p.length with h1 | h1
   ·omega
   ·rw [<-h,zAu h1] at hq; exact absurd rfl hq
 have hl:p.length=q.length:=Nat.le_antisymm (key hp (fun k=>(h k).symm)) (key hq h);apply List.ext_getElem?;intro k;by_cases hk:k<p.length
 ·have:=h k;unfold num at this;rw [zQZ hk,zQZ (by omega)] at this ⊢;exact congrArg some this
 ·rw [List.getElem?_eq_none (by omega),List.getElem?_eq_none (by omega)]
theorem zDH {p:List Int} (h:Trd p):trim p=p:=zDE (zBI p) h (zBC p)
theorem zEd (a b:List Int) (k:Nat):num (addP a b) k=wrap64 (num a k+num b k):=by
 unfold addP;rw [zBC];by_cases h:k<max a.length b.length
 ·unfold zA7;rw [num];rw [List.getElem?_map,List.getElem?_range h];rfl
 ·rw [zAu (by simp [zA7]; omega),zAu (by omega),zAu (by omega)];unfold wrap64; omega
theorem zDm (a b:List Int):Trd (addP a b):=zBI _
theorem zHk (x y:Int):wrap64 (wrap64 x+y)=wrap64 (x+y):=by unfold wrap64; omega
theorem InI.num {p:List Int} (h:InI p) (k:Nat):-9223372036854775808≤num p k∧num p k≤9223372036854775807:=by
 unfold Proofs.YtlchafedbnihoaaGreat.num;cases e:p[k]? with
 | none=>simp
 | some x=>exact h x (zQa e)
structure Can (h:List Trm):Prop where
 srt:h.Pairwise fun a b=>cmpW a.1 b.1<0
 ne:∀t∈h,t.2≠[]
 tr:∀t∈h,Trd t.2
 inn:∀t∈h,InI t.2
def cf (h:List Trm) (u:List Int) (k:Nat):Int:=(h.map fun t=>if t.1=u then num t.2 k else 0).sum
theorem zH7 (u:List Int) (k:Nat):cf [] u k=0:=rfl
theorem zAw (t:Trm) (h:List Trm) (u:List Int) (k:Nat):cf (t::h) u k=(if t.1=u then num t.2 k else 0)+cf h u k:=by simp [cf]
theorem zH6 (g h:List Trm) (u:List Int) (k:Nat):cf (g++h) u k=cf g u k+cf h u k:=by simp [cf]
theorem zNr {g h:List Trm} (p:g.Perm h) (u:List Int) (k:Nat):cf g u k=cf h u k:=by
 induction p with
 | nil=>rfl
 | cons t _ ih=>rw [zAw,zAw,ih]
 | swap s t l=>rw [zAw,zAw,zAw,zAw]; omega
 | trans _ _ h1 h2=>rw [h1,h2]
theorem zD8 {h:List Trm} {u:List Int} (hu:∀t∈h,t.1≠u) (k:Nat):cf h u k=0:=by
 induction h with
 | nil=>rfl
 | cons t h ih=>rw [zAw,if_neg (hu t (List.mem_cons_self ..)),ih (fun s hs=>hu s (List.mem_cons_of_mem _ hs))]; rfl
theorem zDq (u:List Int):cmpW u u=0:=zBO.2 rfl
theorem zB0 {u v:List Int} (h:cmpW u v<0):v≠u:=by
 rintro rfl;rw [zDq] at h;omega
theorem zBh {x y z:List Int} (h1:cmpW x y<0) (h2:cmpW y z<0):cmpW x z<0:=by
 have h:=zET (Int.le_of_lt h1) (Int.le_of_lt h2);rcases Int.lt_or_eq_of_le h with h | h
 ·exact h
 ·have e:=zBO.1 h;subst e;rw [zDr] at h2;omega
theorem Can.tail {t:Trm} {h:List Trm} (c:Can (t::h)):Can h∧∀s∈h,cmpW t.1 s.1<0 :=
 ⟨⟨(List.pairwise_cons.1 c.srt).2,fun s hs=>c.ne s (List.mem_cons_of_mem _ hs),fun s hs=>c.tr s (List.mem_cons_of_mem _ hs),fun s hs=>c.inn s (List.mem_cons_of_mem _ hs)⟩,(List.pairwise_cons.1 c.srt).1⟩
theorem Can.cons {t:Trm} {h:List Trm} (c:Can h) (h1:∀s∈h,cmpW t.1 s.1<0) (h2:t.2≠[]) (h3:Trd t.2) (h4:InI t.2):Can (t::h) :=
 ⟨List.pairwise_cons.2 ⟨h1,c.srt⟩,fun s hs=>by rcases List.mem_cons.1 hs with rfl | hs; exact h2; exact c.ne s hs,fun s hs=>by rcases List.mem_cons.1 hs with rfl | hs; exact h3; exact c.tr s hs,
  fun s hs=>by rcases List.mem_cons.1 hs with rfl | hs; exact h4; exact c.inn s hs⟩
theorem Can.nil:Can []:=⟨List.Pairwise.nil,fun t h=>by simp at h,fun t h=>by simp at h,fun t h=>by simp at h⟩
theorem Can.head {t:Trm} {h:List Trm} (c:Can (t::h)) (k:Nat):cf (t::h) t.1 k=num t.2 k:=by
 rw [zAw,if_pos rfl,zD8 (fun s hs=>zB0 (c.tail.2 s hs))]; omega
theorem Can.absent {t:Trm} {h g:List Trm} (c:Can (t::h)) (hg:∀s∈g,s.1≠t.1) (e:∀u k,wrap64 (cf (t::h) u k)=wrap64 (cf g u k)):False:=by
 refine c.ne t (List.mem_cons_self ..) (zDE (c.tr t (List.mem_cons_self ..)) (.inl rfl) fun k=>?_);have h1:=e t.1 k;rw [c.head,zD8 hg,zBa ((c.inn t (List.mem_cons_self ..)).num k)] at h1;rw [h1,zAu (Nat.zero_le _)]; unfold wrap64; omega
theorem zGq:∀{g h:List Trm},Can g→Can h→(∀u k,wrap64 (cf g u k)=wrap64 (cf h u k))→g=h
 | [],[],_,_,_=>rfl
 | t::g,[],c,_,e=>(c.absent (fun s hs=>by simp at hs) e).elim
 | [],t::h,_,c,e=>(c.absent (fun s hs=>by simp at hs) (fun u k=>(e u k).symm)).elim
 | t::g,s::h,c,d,e=>by
  have hts:t.1=s.1:=by
   have h3:cmpW t.1 s.1<0∨cmpW t.1 s.1=0∨cmpW s.1 t.1<0:=by rw [zDr t.1 s.1]; omega
   rcases h3 with h3 | h3 | h3
   ·refine (c.absent (fun r hr=>?_) e).elim;rcases List.mem_cons.1 hr with rfl | hr
    ·exact zB0 h3
    ·exact zB0 (zBh h3 (d.tail.2 r hr))
   ·exact zBO.1 h3
   ·refine (d.absent (fun r hr=>?_) (fun u k=>(e u k).symm)).elim;rcases List.mem_cons.1 hr with rfl | hr
    ·exact zB0 h3
    ·exact zB0 (zBh h3 (c.tail.2 r hr))
  have hp:t.2=s.2:=zDE (c.tr t (List.mem_cons_self ..)) (d.tr s (List.mem_cons_self ..)) fun k=>by
   have h1:=e t.1 k;rw [c.head,hts,d.head,zBa ((c.inn t (List.mem_cons_self ..)).num k),zBa ((d.inn s (List.mem_cons_self ..)).num k)] at h1;exact h1
  have ets:t=s:=Prod.ext hts hp;subst ets;have:=zGq c.tail.1 d.tail.1 fun u k=>by
   by_cases hu:t.1=u
   ·subst hu;rw [zD8 (fun r hr=>zB0 (c.tail.2 r hr)),zD8 (fun r hr=>zB0 (d.tail.2 r hr))]
   ·have:=e u k;rw [zAw,zAw,if_neg hu] at this;simpa using this
  rw [this]
def putT (w p:List Int):List Trm→List Trm
 | []=>if p=[] then [] else [(w,p)]
 |t::h=>if cmpW w t.1<0 then (if p=[] then [] else [(w,p)])++t::h
  else if cmpW w t.1=0 then (if addP t.2 p=[] then [] else [(w,addP t.2 p)])++h else t::putT w p h
theorem zH8 (w p:List Int) (u:List Int) (k:Nat):cf (if p=[] then [] else [(w,p)]) u k=if w=u then num p k else 0:=by
 by_cases hp:p=[]
 ·rw [if_pos hp,hp]; simp [cf,num]
 ·rw [if_neg hp]; simp [cf]
theorem Can.one {w p:List Int} {h:List Trm} (c:Can h) (h1:∀s∈h,cmpW w s.1<0) (h3:Trd p) (h4:InI p):Can ((if p=[] then [] else [(w,p)])++h):=by
 by_cases hp:p=[]
 ·rw [if_pos hp]; exact c
 ·rw [if_neg hp]; exact c.cons h1 hp h3 h4
theorem zI0 {w p u:List Int}:∀{h:List Trm},cmpW u w<0→(∀s∈h,cmpW u s.1<0)→∀s∈putT w p h,cmpW u s.1<0
 | [],hw,_,s,hs=>by
  unfold putT at hs;split at hs
  ·simp at hs
  ·simp at hs; subst hs; exact hw
 | t::h,hw,hh,s,hs=>by
  unfold putT at hs;split at hs
  ·rw [List.mem_append] at hs;rcases hs with hs | hs
   ·split at hs
    ·simp at hs
    ·simp at hs; subst hs; exact hw
   ·exact hh s hs
  ·split at hs
   ·rw [List.mem_append] at hs;rcases hs with hs | hs
    ·split at hs
     ·simp at hs
     ·simp at hs; subst hs; exact hw
    ·exact hh s (List.mem_cons_of_mem _ hs)
   ·rcases List.mem_cons.1 hs with rfl | hs
    ·exact hh s (List.mem_cons_self ..)
    ·exact zI0 hw (fun r hr=>hh r (List.mem_cons_of_mem _ hr)) s hs
theorem zIy {w p:List Int} (h3:Trd p) (h4:InI p):∀{h:List Trm},Can h→Can (putT w p h)∧∀u k,wrap64 (cf (putT w p h) u k)=wrap64 (cf h u k+if w=u then num p k else 0)
 | [],c=>by
  unfold putT;refine ⟨by have:=Can.one (w:=w) c (fun s hs=>by simp at hs) h3 h4; rwa [List.append_nil] at this,fun u k=>?_⟩;rw [zH8,zH7,Int.zero_add]
 | t::h,c=>by
  unfold putT;by_cases h1:cmpW w t.1<0
  ·rw [if_pos h1];refine ⟨c.one (fun s hs=>?_) h3 h4,fun u k=>?_⟩
   ·rcases List.mem_cons.1 hs with rfl | hs
    ·exact h1
    ·exact zBh h1 (c.tail.2 s hs)
   ·rw [zH6,zH8,Int.add_comm]
  ·rw [if_neg h1];by_cases h2:cmpW w t.1=0
   ·rw [if_pos h2];have e:=zBO.1 h2;subst e;refine ⟨c.tail.1.one c.tail.2 (zDm _ _) (zC6 _ _),fun u k=>?_⟩;rw [zH6,zH8,zAw,zEd];by_cases hu:t.1=u
    ·rw [if_pos hu,if_pos hu,if_pos hu,zHk];congr 1; omega
    ·rw [if_neg hu,if_neg hu,if_neg hu];congr 1; omega
   ·rw [if_neg h2];have h5:cmpW t.1 w<0:=by rw [zDr]; omega
    obtain ⟨c1,c2⟩:=zIy (w:=w) h3 h4 c.tail.1;refine ⟨c1.cons (zI0 h5 c.tail.2) (c.ne t (List.mem_cons_self ..)) (c.tr t (List.mem_cons_self ..)) (c.inn t (List.mem_cons_self ..)),fun u k=>?_⟩;rw [zAw,zAw];have:=c2 u k;unfold wrap64 at this ⊢;omega
set_option maxRecDepth 20000
set_option maxHeartbeats 8000000
def zAq (a b:List Int) (i:Nat) (O:List Int):Nat→List Int
 | 0=>O
 | k+1=>(zAq a b i O k).set (i+k) (wrap64 (num (zAq a b i O k) (i+k)+wrap64 (num a i*num b k)))
def zAg (a b:List Int):Nat→List Int
 | 0=>List.replicate (a.length+b.length-1) 0
 | i+1=>zAq a b i (zAg a b i) b.length
def mulP (a b:List Int):List Int:=if a.length=0∨b.length=0∨62<a.length+b.length then [] else trim (zAg a b a.length)
theorem zC0 (a b:List Int) (i:Nat) (O:List Int):∀k,(zAq a b i O k).length=O.length
 | 0=>rfl
 | k+1=>by unfold zAq; rw [List.length_set,zC0 a b i O k]
theorem zCL (a b:List Int):∀i,(zAg a b i).length=a.length+b.length-1
 | 0=>by simp [zAg]
 | i+1=>by unfold zAg; rw [zC0,zCL a b i]
theorem zJT (x:Int):-9223372036854775808≤wrap64 x∧wrap64 x≤9223372036854775807:=by unfold wrap64; omega
theorem zHV (a b:List Int) (i:Nat) (O:List Int) (h:InI O):∀k,InI (zAq a b i O k)
 | 0=>h
 | k+1=>fun x hx=>by
  unfold zAq at hx;rcases List.mem_or_eq_of_mem_set hx with hx | rfl
  ·exact zHV a b i O h k x hx
  ·exact zJT _
theorem zIg (a b:List Int):∀i,InI (zAg a b i)
 | 0=>fun x hx=>by
  unfold zAg at hx;have:=List.eq_of_mem_replicate hx;omega
 | i+1=>by unfold zAg; exact zHV a b i _ (zIg a b i) _
theorem zCp (a b:List Int):Trd (mulP a b)∧InI (mulP a b)∧(mulP a b).length≤62:=by
 unfold mulP;split
 ·exact ⟨.inl rfl,fun x hx=>by simp at hx,by simp⟩
 ·refine ⟨zBI _,fun x hx=>zIg a b _ x (zEn hx),?_⟩;have:=zBm (zAg a b a.length);rw [zCL] at this;omega
theorem FI.drewF {W w:World} {v:Value} {l:List Int} (h:FI (New W w) w v l):FI (New W w.drew) w.drew v l:=h.grow ((Below.refl _ w).drew)
theorem zGu {S S':Nat→Prop} {u v:Value} {l l':List Int} {w:World} (h:RI S w u l) (h':RI S' w v l') (hl:l.length≤8388608) (hl':l'.length≤8388608) :
  Calls Tryz.prog 13 #[u,v] w fun e w'=>∃r,e=.returned r∧FI (New w w') w' r (mulP l l')∧Below w.heap.size w w':=by
 obtain ⟨a,cap,rfl⟩:=h.form;obtain ⟨a',cap',rfl⟩:=h'.form;obtain ⟨i0,hi0,hz0,hz1,hz2⟩:=info_parts zBF;have mixed:Tryz.prog.follows .mixedOrders=true:=by kernel_rfl
 have HP0:=zQY (show l.length=0∨l'.length=0∨62<l.length+l'.length→mulP l l'=[] from fun e=>by unfold mulP; rw [if_pos e]);have HP1:=zQY (show ¬(l.length=0∨l'.length=0∨62<l.length+l'.length)→mulP l l'=trim (zAg l l' l.length) from fun e=>by unfold mulP; rw [if_neg e]);have HS:=zQY (fun i k=>(show zAq l l' i (zAg l l' i) (k+1)=(zAq l l' i (zAg l l' i) k).set (i+k) (wrap64 (num (zAq l l' i (zAg l l' i) k) (i+k)+wrap64 (num l i*num l' k))) from rfl));have HT:=zQY (fun i=>(show zAg l l' (i+1)=zAq l l' i (zAg l l' i) l'.length from rfl));have HT0:=zQY (fun i=>(show zAq l l' i (zAg l l' i) 0=zAg l l' i from rfl));have H0:=zQY (show zAg l l' 0=List.replicate (l.length+l'.length-1) 0 from rfl);have HL:=zQY (fun i k=>(zC0 l l' i (zAg l l' i) k).trans (zCL l l' i));have HLT:=zQY (zCL l l')
 generalize mulP l l'=res at *;generalize hn:l.length=n at *;have HN:=zQY hn;clear hn;generalize hm:l'.length=m at *;have HM:=zQY hm;clear hm;by_cases hz:n=0∨m=0∨62<n+m
 ·have HR:=zQY (HP0.out hz);have hcs:(n=0)∨(n≠0∧m=0)∨(n≠0∧m≠0∧62<n+m):=by omega
  clear hz hi0 hz0 hz1 hz2;rcases hcs with hc | ⟨hc,hc2⟩ | ⟨hc,hc2,hc3⟩
  ·have i0n:((n:Int) == 0)=true:=by simp; omega
   clear hc;go_enter Tryz.func13,Tryz.ntmps13
   go_wp2_with fail
   go_ret
   rw [HR.out];exact ⟨_,rfl,FI.of_row (w:=w) (World.ownsRow_lit (base:=w.heap.size) (e:=3) (size:=1) w #[] 0 (zQd _) (by unfold maxLen; omega) rfl) (zQd _) rfl rfl,(Below.refl _ w).alloc (zQd _) _⟩
  ·have i0n:((n:Int) == 0)=false:=by simp; omega
   have i0m:((m:Int) == 0)=true:=by simp; omega
   clear hc hc2;go_enter Tryz.func13,Tryz.ntmps13
   go_wp2_with fail
   go_ret
   rw [HR.out];exact ⟨_,rfl,FI.of_row (w:=w) (World.ownsRow_lit (base:=w.heap.size) (e:=3) (size:=1) w #[] 0 (zQd _) (by unfold maxLen; omega) rfl) (zQd _) rfl rfl,(Below.refl _ w).alloc (zQd _) _⟩
  ·have i0n:((n:Int) == 0)=false:=by simp; omega
   have i0m:((m:Int) == 0)=false:=by simp; omega
   have i62:(62:Int)<(n:Int)+(m:Int):=by omega
   clear hc hc2 hc3;go_enter Tryz.func13,Tryz.ntmps13
   go_wp2_with fail
   go_ret
   rw [HR.out];exact ⟨_,rfl,FI.of_row (w:=w) (World.ownsRow_lit (base:=w.heap.size) (e:=3) (size:=1) w #[] 0 (zQd _) (by unfold maxLen; omega) rfl) (zQd _) rfl rfl,(Below.refl _ w).alloc (zQd _) _⟩
 ·have HR:=zQY (HP1.out hz);obtain ⟨M,hM⟩:∃M,M+1=n+m:=⟨n+m-1,by omega⟩;have i0n:((n:Int) == 0)=false:=by simp; omega
  have i0m:((m:Int) == 0)=false:=by simp; omega
  have i62:¬(62:Int)<(n:Int)+(m:Int):=by omega
  have hn62:n≤62:=by omega
  have hm62:m≤62:=by omega
  have hn1:1≤n:=by omega
  have hm1:1≤m:=by omega
  rw [show n+m-1=M by omega] at H0 HL HLT;have eM:(n:Int)+(m:Int)-1=(M:Int):=by omega
  clear hz;go_enter Tryz.func13,Tryz.ntmps13
  go_wp2_with (at_make; (refine wpList_make_full _ rfl _ _ 25 rfl w.heap.size 3 i0 (.int .i64 0) 1 Tryz.underlying25 hi0 hz0 hz1 _ _ _ _ M rfl rfl (by first | exact eM | rfl | (simp only [wrap64]; omega)) (by first | exact eM | rfl | (simp only [wrap64]; omega)) ?hb ?hm ?hs ?_))
  case hb=>first | (rw [hz2]; omega) | omega
  case hm=>unfold maxLen; omega
  intro w1 hown hgr;have hb1:Below w.heap.size w w1:=(Below.refl _ w).grown hgr (zQd _) (by simp);have hf1:FI (New w w1) w1 (.slice (some ⟨w.heap.size,0,none⟩) M M) (List.replicate M 0):=FI.of_row hown (zQd _) (by simp) (by simp [toList_madeCells_one]);clear hgr hi0 hz0 hz1 hz2 hown eM;rw [<-H0.out] at hf1;go_wp2_with fail
  go_loopw [6] (fun ii wr=>∃i:Nat,i≤n∧ii=.int .i64 i∧FI (New w wr) wr (.slice (some ⟨w.heap.size,0,none⟩) M M) (zAg l l' i)∧Below w.heap.size w wr) (fun ii _=>n-(intOf ii).toNat)
  case atStart=>exact ⟨0,Nat.zero_le _,rfl,hf1,hb1⟩
  case round =>
   obtain ⟨i,hi,rfl,hf,hb⟩:=hrel;by_cases h1:i<n
   ·have i1:(i:Int)<(n:Int):=by omega
    have hf:=hf;rw [<-HT0.out i] at hf;go_wp2_with fail
    go_loopw [7] (fun jj wr=>∃k:Nat,k≤m∧jj=.int .i64 k∧FI (New w wr) wr (.slice (some ⟨w.heap.size,0,none⟩) M M) (zAq l l' i (zAg l l' i) k)∧Below w.heap.size w wr) (fun jj _=>m-(intOf jj).toNat)
    case atStart=>exact ⟨0,Nat.zero_le _,rfl,hf,hb⟩
    case round =>
     obtain ⟨k,hk,rfl,hf,hb⟩:=hrel;by_cases h2:k<m
     ·have i2:(k:Int)<(m:Int):=by omega
      obtain ⟨b,o,y,e8,hcy,hy⟩:=(h.below hb).at h1;obtain ⟨b',o',z,e9,hcz,hz'⟩:=(h'.below hb).at h2;have hPk:=HL.out i k;have hkM:i+k<M:=by omega
      obtain ⟨b5,o5,x,e5,hcx,hx⟩:=RI.at hf.any hkM;simp only [Option.some.injEq,Addr.mk.injEq,and_true] at e5;obtain ⟨rfl,rfl⟩:=e5;rw [Nat.zero_add] at hcx;subst e8 e9;have hfr:=hf.froz hPk (i+k);have hst:=hf.put hPk (i+k) (wrap64 (x+wrap64 (y*z)));rw [show (zAq l l' i (zAg l l' i) k).set (i+k) (wrap64 (x+wrap64 (y*z)))=zAq l l' i (zAg l l' i) (k+1) from by rw [HS.out,zAm hx.out,zAm hy.out,zAm hz'.out]] at hst;have e1:((i:Int)+(k:Int)).toNat=i+k:=by omega
      have HST:=zQY hst;have hPk2:=HL.out i (k+1);clear hst hx hy hz';go_wp2_with fail
      go_big_region_o
      go_wp2_with fail
      go_roundw
      case rel=>exact ⟨k+1,by omega,by go_num,(HST.out.mono (fun b hb'=>⟨hb'.1,Nat.lt_of_lt_of_le hb'.2 ((Below.refl 0 wr).setCell (Nat.zero_le _) _).size⟩)).drewF,(hb.setCell (zQd _) _).drew⟩
      case measure=>simp [intOf]; omega
     ·have hkm:k=m:=by omega
      have i2:¬(k:Int)<(m:Int):=by omega
      rw [hkm,<-HT.out i] at hf;clear hkm;go_wp2_with fail
      go_roundw
      case rel=>exact ⟨i+1,by omega,by go_num,hf,hb⟩
      case measure=>simp [intOf]; omega
   ·have hkm:i=n:=by omega
    have i1:¬(i:Int)<(n:Int):=by omega
    rw [hkm] at hf;clear hkm;go_wp2_with fail
    refine (zBE hf.reads (by rw [HLT.out]; omega)).mono ?_;rintro e w5 ⟨r5,rfl,f5,b5⟩;rw [<-HR.out] at f5;go_wp2_with fail
    go_ret
    exact ⟨_,rfl,f5.mono (fun b hb'=>⟨Nat.le_trans hb.size hb'.1,hb'.2⟩),zAA.step hb b5⟩
def grpT (acc:List Trm) (t:Trm):List Trm :=
 match acc.getLast? with
 | some l=>if l.1=t.1 then acc.dropLast++[(l.1,addP l.2 t.2)] else acc++[(t.1,trim t.2)]
 | none=>[(t.1,trim t.2)]
theorem zEW (t:Trm):grpT [] t=[(t.1,trim t.2)]:=rfl
theorem zDv (acc:List Trm) (l t:Trm):grpT (acc++[l]) t=if l.1=t.1 then acc++[(l.1,addP l.2 t.2)] else (acc++[l])++[(t.1,trim t.2)]:=by
 unfold grpT;simp
theorem zBU {α:Type} (l:List α):l=[]∨∃a x,l=a++[x]:=by
 rcases List.eq_nil_or_concat l with h | ⟨a,x,h⟩
 ·exact .inl h
 ·exact .inr ⟨a,x,by rw [h,List.concat_eq_append]⟩
structure Gr (acc:List Trm):Prop where
 srt:acc.Pairwise fun a b=>cmpW a.1 b.1<0
 tr:∀t∈acc,Trd t.2
 inn:∀t∈acc,InI t.2
theorem Gr.nil:Gr []:=⟨List.Pairwise.nil,fun t h=>by simp at h,fun t h=>by simp at h⟩
theorem Gr.snoc {acc:List Trm} {t:Trm} (g:Gr acc) (h:∀s∈acc,cmpW s.1 t.1<0) (h2:Trd t.2) (h3:InI t.2):Gr (acc++[t]) :=
 ⟨List.pairwise_append.2 ⟨g.srt,List.pairwise_singleton ..,fun s hs r hr=>by rw [List.mem_singleton] at hr; subst hr; exact h s hs⟩,
  fun s hs=>by rcases List.mem_append.1 hs with hs | hs; exact g.tr s hs; rw [List.mem_singleton] at hs; subst hs; exact h2,
  fun s hs=>by rcases List.mem_append.1 hs with hs | hs; exact g.inn s hs; rw [List.mem_singleton] at hs; subst hs; exact h3⟩
theorem Gr.init {acc:List Trm} {t:Trm} (g:Gr (acc++[t])):Gr acc∧∀s∈acc,cmpW s.1 t.1<0 :=
 ⟨⟨(List.pairwise_append.1 g.srt).1,fun s hs=>g.tr s (List.mem_append_left _ hs),fun s hs=>g.inn s (List.mem_append_left _ hs)⟩,
  fun s hs=>(List.pairwise_append.1 g.srt).2.2 s hs t (List.mem_singleton.2 rfl)⟩
theorem zG7 {p:List Int} (h:InI p):InI (trim p):=fun x hx=>h x (zEn hx)
theorem zD9 (g:List Trm) (t:Trm) (u:List Int) (k:Nat):cf (g++[t]) u k=cf g u k+(if t.1=u then num t.2 k else 0):=by
 rw [zH6,zAw,zH7]; omega
theorem zLO {acc:List Trm} {t:Trm} (g:Gr acc) (ht:InI t.2) (hle:∀s∈acc,cmpW s.1 t.1≤0) :
  Gr (grpT acc t)∧(∀s∈grpT acc t,cmpW s.1 t.1≤0)∧∀u k,wrap64 (cf (grpT acc t) u k)=wrap64 (cf acc u k+if t.1=u then num t.2 k else 0):=by
 rcases zBU acc with rfl | ⟨a,l,rfl⟩
 ·rw [zEW];refine ⟨(Gr.nil).snoc (t:=(t.1,trim t.2)) (fun s hs=>by simp at hs) (zBI _) (zG7 ht),fun s hs=>?_,fun u k=>?_⟩
  ·rw [List.mem_singleton] at hs; subst hs; rw [zDq]; exact Int.le_refl _
  ·rw [zAw,zH7,zBC,Int.zero_add,Int.add_zero]
 ·rw [zDv];by_cases h:l.1=t.1
  ·rw [if_pos h];obtain ⟨g1,g2⟩:=g.init;refine ⟨g1.snoc (t:=(l.1,addP l.2 t.2)) g2 (zDm _ _) (zC6 _ _),fun s hs=>?_,fun u k=>?_⟩
   ·rcases List.mem_append.1 hs with hs | hs
    ·exact hle s (List.mem_append_left _ hs)
    ·rw [List.mem_singleton] at hs; subst hs; rw [h,zDq]; exact Int.le_refl _
   ·rw [zD9,zD9,zEd,<-h];by_cases hu:l.1=u
    ·rw [if_pos hu,if_pos hu,if_pos hu,Int.add_comm,zHk];congr 1; omega
    ·rw [if_neg hu,if_neg hu,if_neg hu];congr 1; omega
  ·rw [if_neg h];have hlt:∀s∈a++[l],cmpW s.1 t.1<0:=fun s hs=>by
    have hl:cmpW l.1 t.1<0:=by
     have h1:=hle l (List.mem_append_right _ (List.mem_singleton.2 rfl));rcases Int.lt_or_eq_of_le h1 with h1 | h1
     ·exact h1
     ·exact absurd (zBO.1 h1) h
    rcases List.mem_append.1 hs with hs | hs
    ·exact zBh (g.init.2 s hs) hl
    ·rw [List.mem_singleton] at hs; subst hs; exact hl
   refine ⟨g.snoc (t:=(t.1,trim t.2)) hlt (zBI _) (zG7 ht),fun s hs=>?_,fun u k=>?_⟩
   ·rcases List.mem_append.1 hs with hs | hs
    ·exact hle s hs
    ·rw [List.mem_singleton] at hs; subst hs; rw [zDq]; exact Int.le_refl _
   ·rw [zD9];show wrap64 (_+if t.1=u then num (trim t.2) k else 0)=_;rw [zBC]
def zBA (L:List Trm):List Trm:=L.foldl grpT []
theorem zEX (L:List Trm) (t:Trm):zBA (L++[t])=grpT (zBA L) t:=by unfold zBA; rw [List.foldl_append]; rfl
theorem zJl:∀(n:Nat) (L:List Trm),L.length=n→L.Pairwise (fun a b=>cmpW a.1 b.1≤0)→(∀t∈L,InI t.2) →
  Gr (zBA L)∧(∀s∈zBA L,∀z,(∀t∈L,cmpW t.1 z≤0)→cmpW s.1 z≤0)∧∀u k,wrap64 (cf (zBA L) u k)=wrap64 (cf L u k)
 | 0,L,hn,_,_=>by
  have:=List.eq_nil_of_length_eq_zero hn;subst this;exact ⟨Gr.nil,fun s hs=>by simp [zBA] at hs,fun _ _=>rfl⟩
 | n+1,L,hn,hs,hi=>by
  rcases zBU L with rfl | ⟨a,t,rfl⟩
  ·simp at hn
  ·have ha:a.length=n:=by simp at hn; exact hn
   obtain ⟨g1,g2,g3⟩:=zJl n a ha (List.pairwise_append.1 hs).1 (fun s h=>hi s (List.mem_append_left _ h));have hle:∀s∈a,cmpW s.1 t.1≤0:=fun s h=>(List.pairwise_append.1 hs).2.2 s h t (List.mem_singleton.2 rfl);obtain ⟨r1,r2,r3⟩:=zLO g1 (hi t (List.mem_append_right _ (List.mem_singleton.2 rfl))) (fun s h=>g2 s h t.1 hle);rw [zEX];refine ⟨r1,fun s h z hz=>zET (r2 s h) (hz t (List.mem_append_right _ (List.mem_singleton.2 rfl))),fun u k=>?_⟩;rw [r3,zD9];have:=g3 u k;unfold wrap64 at this ⊢;omega
def full (t:Trm):Bool:=!t.2.isEmpty
theorem zIL {t:Trm}:full t=true↔t.2≠[]:=by
 unfold full;cases t.2 <;> simp
theorem Gr.can {acc:List Trm} (g:Gr acc):Can (acc.filter full)∧∀u k,cf (acc.filter full) u k=cf acc u k:=by
 refine ⟨⟨g.srt.sublist List.filter_sublist,fun t h=>zIL.1 (List.mem_filter.1 h).2,fun t h=>g.tr t (List.mem_filter.1 h).1,fun t h=>g.inn t (List.mem_filter.1 h).1⟩,fun u k=>?_⟩;clear g
 induction acc with
 | nil=>rfl
 | cons t acc ih =>
  rw [List.filter_cons];by_cases h:full t=true
  ·rw [if_pos h,zAw,zAw,ih]
  ·rw [if_neg h,zAw,ih];have:t.2=[]:=by
    cases e:t.2 with
    | nil=>rfl
    | cons a b=>exact absurd (zIL.2 (by rw [e]; simp)) h
   rw [this,zAu (Nat.zero_le _)];split <;> omega
def coll (M:List Trm):List Trm:=(zBA M).filter full
def puts (L:List Trm):List Trm:=L.foldl (fun h t=>putT t.1 t.2 h) []
theorem zDO (L:List Trm) (t:Trm):puts (L++[t])=putT t.1 t.2 (puts L):=by unfold puts; rw [List.foldl_append]; rfl
theorem zBD:∀(n:Nat) (L:List Trm),L.length=n→(∀t∈L,Trd t.2∧InI t.2)→Can (puts L)∧∀u k,wrap64 (cf (puts L) u k)=wrap64 (cf L u k)
 | 0,L,hn,_=>by
  have:=List.eq_nil_of_length_eq_zero hn;subst this;exact ⟨Can.nil,fun _ _=>rfl⟩
 | n+1,L,hn,hi=>by
  rcases zBU L with rfl | ⟨a,t,rfl⟩
  ·simp at hn
  ·have ha:a.length=n:=by simp at hn; exact hn
   obtain ⟨g1,g3⟩:=zBD n a ha (fun s h=>hi s (List.mem_append_left _ h));have ht:=hi t (List.mem_append_right _ (List.mem_singleton.2 rfl));obtain ⟨r1,r3⟩:=zIy (w:=t.1) ht.1 ht.2 g1;rw [zDO];refine ⟨r1,fun u k=>?_⟩;rw [r3,zD9];have:=g3 u k;unfold wrap64 at this ⊢;omega
theorem zK6 {L M:List Trm} (p:M.Perm L) (hs:M.Pairwise (fun a b=>cmpW a.1 b.1≤0)) (hi:∀t∈L,Trd t.2∧InI t.2):coll M=puts L:=by
 obtain ⟨g1,_,g3⟩:=zJl _ M rfl hs (fun t h=>(hi t (p.mem_iff.1 h)).2);obtain ⟨c1,c2⟩:=g1.can;obtain ⟨d1,d2⟩:=zBD _ L rfl hi;exact zGq c1 d1 fun u k=>by
  show wrap64 (cf ((zBA M).filter full) u k)=_;rw [c2,g3,d2,zNr p]
def one1 (w p:List Int):List Trm:=if p=[] then [] else [(w,p)]
def zBV (w p:List Int) (s:List Trm × Bool) (t:Trm):List Trm × Bool :=
 if cmpW w t.1=0 then (s.1++one1 w (addP t.2 p),true)
 else if cmpW w t.1<0∧s.2=false then ((s.1++one1 w p)++[t],true)
 else (s.1++[t],s.2)
def endP (w p:List Int) (s:List Trm × Bool):List Trm:=if s.2=true then s.1 else s.1++one1 w p
def putF (w p:List Int) (h:List Trm):List Trm × Bool:=h.foldl (zBV w p) ([],false)
theorem zL0 {w p:List Int} {L:List Trm} {k:Nat} {t:Trm} (h:L[k]? = some t):putF w p (L.take (k+1))=zBV w p (putF w p (L.take k)) t:=by
 rw [zAW h];unfold putF;rw [List.foldl_append]; rfl
theorem zIq (w p:List Int):(one1 w p).length≤1:=by unfold one1; split <;> simp
theorem zKm (w p:List Int) (s:List Trm × Bool) (t:Trm):(zBV w p s t).1.length+(if (zBV w p s t).2 then 0 else 1)≤s.1.length+(if s.2 then 0 else 1)+1:=by
 have h1:=zIq w p;have h2:=zIq w (addP t.2 p);unfold zBV;by_cases c0:cmpW w t.1=0
 ·rw [if_pos c0]; simp; omega
 ·rw [if_neg c0];by_cases c1:cmpW w t.1<0∧s.2=false
  ·rw [if_pos c1,c1.2]; simp; omega
  ·rw [if_neg c1]; simp; omega
theorem zIx (w p:List Int):∀(L:List Trm) (s:List Trm × Bool),(L.foldl (zBV w p) s).1.length+(if (L.foldl (zBV w p) s).2 then 0 else 1)≤s.1.length+(if s.2 then 0 else 1)+L.length
 | [],s=>by rw [List.foldl_nil,List.length_nil]; omega
 | t::L,s=>by
  have h1:=zKm w p s t;have h2:=zIx w p L (zBV w p s t);rw [List.foldl_cons,List.length_cons];omega
theorem zEf {w p:List Int}:∀{h:List Trm} {acc:List Trm},(∀t∈h,cmpW w t.1<0)→h.foldl (zBV w p) (acc,true)=(acc++h,true)
 | [],acc,_=>by simp
 | t::h,acc,hh=>by
  have h1:=hh t (List.mem_cons_self ..);rw [List.foldl_cons];have:zBV w p (acc,true) t=(acc++[t],true):=by unfold zBV; rw [if_neg (by omega),if_neg (by simp)]
  rw [this,zEf (fun s hs=>hh s (List.mem_cons_of_mem _ hs)),List.append_assoc]; rfl
theorem zIw {w p:List Int}:∀{h:List Trm} {acc:List Trm},Can h→endP w p (h.foldl (zBV w p) (acc,false))=acc++putT w p h
 | [],acc,_=>by simp [endP,putT,one1]
 | t::h,acc,c=>by
  rw [List.foldl_cons];unfold putT;by_cases h1:cmpW w t.1<0
  ·rw [if_pos h1];have:zBV w p (acc,false) t=((acc++one1 w p)++[t],true):=by unfold zBV; rw [if_neg (by omega),if_pos ⟨h1,rfl⟩]
   rw [this,zEf (fun s hs=>zBh h1 (c.tail.2 s hs))];simp [endP,one1]
  ·rw [if_neg h1];by_cases h2:cmpW w t.1=0
   ·rw [if_pos h2];have:zBV w p (acc,false) t=(acc++one1 w (addP t.2 p),true):=by unfold zBV; rw [if_pos h2]
    have e:=zBO.1 h2;rw [this,zEf (fun s hs=>by rw [e]; exact c.tail.2 s hs)];simp [endP,one1]
   ·rw [if_neg h2];have:zBV w p (acc,false) t=(acc++[t],false):=by unfold zBV; rw [if_neg h2,if_neg (by omega)]
    rw [this,zIw c.tail.1,List.append_assoc]; rfl
theorem zJ1 {w p:List Int} {h:List Trm} (c:Can h):endP w p (putF w p h)=putT w p h:=by
 have:=zIw (w:=w) (p:=p) (acc:=[]) c;rwa [List.nil_append] at this
theorem zOm (w p:List Int) (L:List Trm) (k:Nat):(putF w p (L.take k)).1.length≤k+1:=by
 have:=zIx w p (L.take k) ([],false);have h2:(L.take k).length≤k:=by simp; omega
 unfold putF;simp at this ⊢;omega
theorem zIz (w p:List Int):∀h:List Trm,(putT w p h).length≤h.length+1
 | []=>by unfold putT; split <;> simp
 | t::h=>by
  have:=zIz w p h;unfold putT;split
  ·split <;> simp <;> omega
  ·split
   ·split <;> simp <;> omega
   ·simp; omega
theorem zEg {w p:List Int}:∀{h:List Trm} {s:Trm},s∈putT w p h→s.1=w∨∃t∈h,s.1=t.1
 | [],s,hs=>by
  unfold putT at hs;split at hs
  ·simp at hs
  ·simp at hs; subst hs; exact .inl rfl
 | t::h,s,hs=>by
  unfold putT at hs;split at hs
  ·rw [List.mem_append] at hs;rcases hs with hs | hs
   ·split at hs
    ·simp at hs
    ·simp at hs; subst hs; exact .inl rfl
   ·exact .inr ⟨s,hs,rfl⟩
  ·split at hs
   ·rw [List.mem_append] at hs;rcases hs with hs | hs
    ·split at hs
     ·simp at hs
     ·simp at hs; subst hs; exact .inl rfl
    ·exact .inr ⟨s,List.mem_cons_of_mem _ hs,rfl⟩
   ·rcases List.mem_cons.1 hs with rfl | hs
    ·exact .inr ⟨s,List.mem_cons_self ..,rfl⟩
    ·rcases zEg hs with h1 | ⟨r,hr,h1⟩
     ·exact .inl h1
     ·exact .inr ⟨r,List.mem_cons_of_mem _ hr,h1⟩
theorem zGd {w p:List Int} {B:Nat} (hp:p.length≤B):∀{h:List Trm},(∀t∈h,t.2.length≤B)→∀s∈putT w p h,s.2.length≤B
 | [],_,s,hs=>by
  unfold putT at hs;split at hs
  ·simp at hs
  ·simp at hs; subst hs; exact hp
 | t::h,hh,s,hs=>by
  have ht:=hh t (List.mem_cons_self ..);have ha:=zC7 t.2 p;unfold putT at hs;split at hs
  ·rw [List.mem_append] at hs;rcases hs with hs | hs
   ·split at hs
    ·simp at hs
    ·simp at hs; subst hs; exact hp
   ·exact hh s hs
  ·split at hs
   ·rw [List.mem_append] at hs;rcases hs with hs | hs
    ·split at hs
     ·simp at hs
     ·simp at hs; subst hs; show (addP t.2 p).length≤B; omega
    ·exact hh s (List.mem_cons_of_mem _ hs)
   ·rcases List.mem_cons.1 hs with rfl | hs
    ·exact ht
    ·exact zGd hp (fun r hr=>hh r (List.mem_cons_of_mem _ hr)) s hs
theorem zEh {A B:Nat}:∀(n:Nat) (L:List Trm),L.length=n→(∀t∈L,t.1.length≤A∧t.2.length≤B)→(puts L).length≤n∧∀t∈puts L,t.1.length≤A∧t.2.length≤B
 | 0,L,hn,_=>by
  have:=List.eq_nil_of_length_eq_zero hn;subst this;exact ⟨zQd _,fun t h=>by simp [puts] at h⟩
 | n+1,L,hn,hi=>by
  rcases zBU L with rfl | ⟨a,t,rfl⟩
  ·simp at hn
  ·have ha:a.length=n:=by simp at hn; exact hn
   obtain ⟨g1,g2⟩:=zEh n a ha (fun s h=>hi s (List.mem_append_left _ h));have ht:=hi t (List.mem_append_right _ (List.mem_singleton.2 rfl));rw [zDO];have h1:=zIz t.1 t.2 (puts a);refine ⟨by omega,fun s hs=>⟨?_,zGd ht.2 (fun r hr=>(g2 r hr).2) s hs⟩⟩;rcases zEg hs with e | ⟨r,hr,e⟩
   ·rw [e]; exact ht.1
   ·rw [e]; exact (g2 r hr).1
theorem zL2 {L:List Trm} {k:Nat} {t:Trm} (h:L[k]? = some t):puts (L.take (k+1))=putT t.1 t.2 (puts (L.take k)):=by rw [zAW h,zDO]
def scT (p:List Int) (h:List Trm):List Trm:=h.map fun t=>(t.1,mulP t.2 p)
theorem zEN (p:List Int) (h:List Trm):∀t∈scT p h,Trd t.2∧InI t.2:=fun t ht=>by
 obtain ⟨s,_,rfl⟩:=List.mem_map.1 ht;exact ⟨(zCp s.2 p).1,(zCp s.2 p).2.1⟩
theorem zJ8 {p:List Int} {h:List Trm} {A:Nat} (hA:∀t∈h,t.1.length≤A):∀t∈scT p h,t.1.length≤A∧t.2.length≤62:=fun t ht=>by
 obtain ⟨s,hs,rfl⟩:=List.mem_map.1 ht;exact ⟨hA s hs,(zCp s.2 p).2.2⟩
def scOk (p:List Int) (h:List Trm):Bool:=h.all fun t=>decide (t.2.length+p.length≤62)
theorem zOZ {S S':Nat→Prop} {u v:Value} {l l':List Int} {w:World} (h:RI S w u l) (h':RI S' w v l') (hl:l.length≤8388608) (hl':l'.length≤8388608) :
  Calls Tryz.prog 100 #[u,v] w fun e w'=>∃r,e=.returned r∧FI (New w w') w' r (mulP l l')∧Below w.heap.size w w':=by
 obtain ⟨a,cap,rfl⟩:=h.form;obtain ⟨a',cap',rfl⟩:=h'.form;obtain ⟨i0,hi0,hz0,hz1,hz2⟩:=info_parts zBF;have mixed:Tryz.prog.follows .mixedOrders=true:=by kernel_rfl
 have HP0:=zQY (show l.length=0∨l'.length=0∨62<l.length+l'.length→mulP l l'=[] from fun e=>by unfold mulP; rw [if_pos e]);have HP1:=zQY (show ¬(l.length=0∨l'.length=0∨62<l.length+l'.length)→mulP l l'=trim (zAg l l' l.length) from fun e=>by unfold mulP; rw [if_neg e]);have HS:=zQY (fun i k=>(show zAq l l' i (zAg l l' i) (k+1)=(zAq l l' i (zAg l l' i) k).set (i+k) (wrap64 (num (zAq l l' i (zAg l l' i) k) (i+k)+wrap64 (num l i*num l' k))) from rfl));have HT:=zQY (fun i=>(show zAg l l' (i+1)=zAq l l' i (zAg l l' i) l'.length from rfl));have HT0:=zQY (fun i=>(show zAq l l' i (zAg l l' i) 0=zAg l l' i from rfl));have H0:=zQY (show zAg l l' 0=List.replicate (l.length+l'.length-1) 0 from rfl);have HL:=zQY (fun i k=>(zC0 l l' i (zAg l l' i) k).trans (zCL l l' i));have HLT:=zQY (zCL l l')
 generalize mulP l l'=res at *;generalize hn:l.length=n at *;have HN:=zQY hn;clear hn;generalize hm:l'.length=m at *;have HM:=zQY hm;clear hm;by_cases hz:n=0∨m=0∨62<n+m
 ·have HR:=zQY (HP0.out hz);have hcs:(62<n+m)∨(¬62<n+m∧n=0)∨(¬62<n+m∧n≠0∧m=0):=by omega
  clear hz hi0 hz0 hz1 hz2;rcases hcs with hc | ⟨hc,hc2⟩ | ⟨hc,hc2,hc3⟩
  ·have i62:(62:Int)<(n:Int)+(m:Int):=by omega
   clear hc;go_enter Tryz.func100,Tryz.ntmps100
   go_wp2_with fail
   go_ret
   rw [HR.out];exact ⟨_,rfl,FI.of_row (w:=w) (World.ownsRow_lit (base:=w.heap.size) (e:=3) (size:=1) w #[] 0 (zQd _) (by unfold maxLen; omega) rfl) (zQd _) rfl rfl,(Below.refl _ w).alloc (zQd _) _⟩
  ·have i62:¬(62:Int)<(n:Int)+(m:Int):=by omega
   have i0n:((n:Int) == 0)=true:=by simp; omega
   clear hc hc2;go_enter Tryz.func100,Tryz.ntmps100
   go_wp2_with fail
   go_ret
   rw [HR.out];exact ⟨_,rfl,FI.of_row (w:=w) (World.ownsRow_lit (base:=w.heap.size) (e:=3) (size:=1) w #[] 0 (zQd _) (by unfold maxLen; omega) rfl) (zQd _) rfl rfl,(Below.refl _ w).alloc (zQd _) _⟩
  ·have i62:¬(62:Int)<(n:Int)+(m:Int):=by omega
   have i0n:((n:Int) == 0)=false:=by simp; omega
   have i0m:((m:Int) == 0)=true:=by simp; omega
   clear hc hc2 hc3;go_enter Tryz.func100,Tryz.ntmps100
   go_wp2_with fail
   go_ret
   rw [HR.out];exact ⟨_,rfl,FI.of_row (w:=w) (World.ownsRow_lit (base:=w.heap.size) (e:=3) (size:=1) w #[] 0 (zQd _) (by unfold maxLen; omega) rfl) (zQd _) rfl rfl,(Below.refl _ w).alloc (zQd _) _⟩
 ·have HR:=zQY (HP1.out hz);obtain ⟨M,hM⟩:∃M,M+1=n+m:=⟨n+m-1,by omega⟩;have i0n:((n:Int) == 0)=false:=by simp; omega
  have i0m:((m:Int) == 0)=false:=by simp; omega
  have i62:¬(62:Int)<(n:Int)+(m:Int):=by omega
  have hn62:n≤62:=by omega
  have hm62:m≤62:=by omega
  have hn1:1≤n:=by omega
  have hm1:1≤m:=by omega
  rw [show n+m-1=M by omega] at H0 HL HLT;have eM:(n:Int)+(m:Int)-1=(M:Int):=by omega
  clear hz;go_enter Tryz.func100,Tryz.ntmps100
  go_wp2_with (at_make; (refine wpList_make_full _ rfl _ _ 25 rfl w.heap.size 3 i0 (.int .i64 0) 1 Tryz.underlying25 hi0 hz0 hz1 _ _ _ _ M rfl rfl (by first | exact eM | rfl | (simp only [wrap64]; omega)) (by first | exact eM | rfl | (simp only [wrap64]; omega)) ?hb ?hm ?hs ?_))
  case hb=>first | (rw [hz2]; omega) | omega
  case hm=>unfold maxLen; omega
  intro w1 hown hgr;have hb1:Below w.heap.size w w1:=(Below.refl _ w).grown hgr (zQd _) (by simp);have hf1:FI (New w w1) w1 (.slice (some ⟨w.heap.size,0,none⟩) M M) (List.replicate M 0):=FI.of_row hown (zQd _) (by simp) (by simp [toList_madeCells_one]);clear hgr hi0 hz0 hz1 hz2 hown eM;rw [<-H0.out] at hf1;go_wp2_with fail
  go_loopw [36] (fun ii wr=>∃i:Nat,i≤n∧ii=.int .i64 i∧FI (New w wr) wr (.slice (some ⟨w.heap.size,0,none⟩) M M) (zAg l l' i)∧Below w.heap.size w wr) (fun ii _=>n-(intOf ii).toNat)
  case atStart=>exact ⟨0,Nat.zero_le _,rfl,hf1,hb1⟩
  case round =>
   obtain ⟨i,hi,rfl,hf,hb⟩:=hrel;by_cases h1:i<n
   ·have i1:(i:Int)<(n:Int):=by omega
    have hf:=hf;rw [<-HT0.out i] at hf;obtain ⟨b,o,y,e8,hcy,hy⟩:=(h.below hb).at h1;subst e8;go_wp2_with fail
    go_loopw [43] (fun jj wr=>∃k:Nat,k≤m∧jj=.int .i64 k∧FI (New w wr) wr (.slice (some ⟨w.heap.size,0,none⟩) M M) (zAq l l' i (zAg l l' i) k)∧Below w.heap.size w wr) (fun jj _=>m-(intOf jj).toNat)
    case atStart=>exact ⟨0,Nat.zero_le _,rfl,hf,hb⟩
    case round =>
     obtain ⟨k,hk,rfl,hf,hb⟩:=hrel;by_cases h2:k<m
     ·have i2:(k:Int)<(m:Int):=by omega
      obtain ⟨b',o',z,e9,hcz,hz'⟩:=(h'.below hb).at h2;have hPk:=HL.out i k;have hkM:i+k<M:=by omega
      obtain ⟨b5,o5,x,e5,hcx,hx⟩:=RI.at hf.any hkM;simp only [Option.some.injEq,Addr.mk.injEq,and_true] at e5;obtain ⟨rfl,rfl⟩:=e5;rw [Nat.zero_add] at hcx;subst e9;have hfr:=hf.froz hPk (i+k);have hst:=hf.put hPk (i+k) (wrap64 (x+wrap64 (y*z)));rw [show (zAq l l' i (zAg l l' i) k).set (i+k) (wrap64 (x+wrap64 (y*z)))=zAq l l' i (zAg l l' i) (k+1) from by rw [HS.out,zAm hx.out,zAm hy.out,zAm hz'.out]] at hst;have e1:((i:Int)+(k:Int)).toNat=i+k:=by omega
      have HST:=zQY hst;have hPk2:=HL.out i (k+1);clear hst hx hz';go_wp2_with fail
      go_roundw
      case rel=>exact ⟨k+1,by omega,by go_num,HST.out.mono (fun b hb'=>⟨hb'.1,Nat.lt_of_lt_of_le hb'.2 ((Below.refl 0 wr).setCell (Nat.zero_le _) _).size⟩),hb.setCell (zQd _) _⟩
      case measure=>simp [intOf]; omega
     ·have hkm:k=m:=by omega
      have i2:¬(k:Int)<(m:Int):=by omega
      rw [hkm,<-HT.out i] at hf;clear hkm;go_wp2_with fail
      go_roundw
      case rel=>exact ⟨i+1,by omega,by go_num,hf,hb⟩
      case measure=>simp [intOf]; omega
   ·have hkm:i=n:=by omega
    have i1:¬(i:Int)<(n:Int):=by omega
    rw [hkm] at hf;clear hkm;go_wp2_with fail
    refine (zBN hf.reads (by rw [HLT.out]; omega)).mono ?_;rintro e w5 ⟨r5,rfl,f5,b5⟩;rw [<-HR.out] at f5;go_wp2_with fail
    go_ret
    exact ⟨_,rfl,f5.mono (fun b hb'=>⟨Nat.le_trans hb.size hb'.1,hb'.2⟩),zAA.step hb b5⟩
end Go.Proofs.YtlchafedbnihoaaGreat
