/- Terms in order with a polynomial each: such a list is known by its coefficients; adding a term; joining equal words in a sorted list. Plain lists. -/
import Derived.Test.YtlchafedbnihoaaGreatDoorJGRow
import Derived.Test.YtlchafedbnihoaaGreatDoorJGPoly
namespace Go.Proofs.YtlchafedbnihoaaGreatDoor
open Go.RowKit
theorem zDp (p:List Int):∀n,zAR p n=0∨num p (zAR p n-1)≠0
 | 0=>.inl rfl
 | n+1=>by
  unfold zAR;by_cases h:num p n=0
  ·rw [if_pos h]; exact zDp p n
  ·rw [if_neg h]; exact .inr (by rwa [Nat.add_sub_cancel])
theorem zEH (p:List Int):∀n k,zAR p n≤k→k<n→num p k=0
 | 0,k,_,h=>absurd h (Nat.not_lt_zero _)
 | n+1,k,h1,h2=>by
  unfold zAR at h1;by_cases h:num p n=0
  ·rw [if_pos h] at h1;by_cases hk:k=n
   ·rw [hk]; exact h
   ·exact zEH p n k h1 (by omega)
  ·rw [if_neg h] at h1; omega
theorem zE4 (p:List Int):(trim p).length=zAR p p.length:=by
 have:=zCg p p.length;unfold trim; simp; omega
theorem zB7 (p:List Int) (k:Nat):num (trim p) k=num p k:=by
 by_cases h:k<zAR p p.length
 ·unfold trim num;rw [List.getElem?_take,if_pos h]
 ·rw [zBD (by rw [zE4]; omega)];by_cases h2:k<p.length
  ·exact (zEH p p.length k (by omega) h2).symm
  ·exact (zBD (by omega)).symm
def Trd (p:List Int):Prop:=p=[]∨num p (p.length-1)≠0
theorem zCW (p:List Int):Trd (trim p):=by
 rcases zDp p p.length with h | h
 ·exact .inl (List.eq_nil_of_length_eq_zero (by rw [zE4,h]))
 ·exact .inr (by rw [zB7,zE4]; exact h)
theorem zF6 {p q:List Int} (hp:Trd p) (hq:Trd q) (h:∀k,num p k=num q k):p=q:=by
 have key:∀{p q:List Int},Trd q→(∀k,num p k=num q k)→q.length≤p.length:=by
  intro p q hq h;rcases hq with rfl | hq
  ·exact Nat.zero_le _
  ·rcases Nat.lt_or_ge (q.length-1) p.length with h1 | h1
   ·omega
   ·rw [<-h,zBD h1] at hq; exact absurd rfl hq
 have hl:p.length=q.length:=Nat.le_antisymm (key hp (fun k=>(h k).symm)) (key hq h);apply List.ext_getElem?;intro k;by_cases hk:k<p.length
 ·have:=h k;unfold num at this;rw [zNh hk,zNh (by omega)] at this ⊢;exact congrArg some this
 ·rw [List.getElem?_eq_none (by omega),List.getElem?_eq_none (by omega)]
theorem zEx (a b:List Int) (k:Nat):num (addP a b) k=wrap64 (num a k+num b k):=by
 unfold addP;rw [zB7];by_cases h:k<max a.length b.length
 ·unfold zA2;rw [num];rw [List.getElem?_map,List.getElem?_range h];rfl
 ·rw [zBD (by simp [zA2]; omega),zBD (by omega),zBD (by omega)];unfold wrap64; omega
theorem zE3 (a b:List Int):Trd (addP a b):=zCW _
theorem zGZ (x y:Int):wrap64 (wrap64 x+y)=wrap64 (x+y):=by unfold wrap64; omega
theorem InI.num {p:List Int} (h:InI p) (k:Nat):-9223372036854775808≤num p k∧num p k≤9223372036854775807:=by
 unfold Proofs.YtlchafedbnihoaaGreatDoor.num;cases e:p[k]? with
 | none=>simp
 | some x=>exact h x (zNi e)
structure Can (h:List Trm):Prop where
 srt:h.Pairwise fun a b=>cmpW a.1 b.1<0
 ne:∀t∈h,t.2≠[]
 tr:∀t∈h,Trd t.2
 inn:∀t∈h,InI t.2
def cf (h:List Trm) (u:List Int) (k:Nat):Int:=(h.map fun t=>if t.1=u then num t.2 k else 0).sum
theorem zFB (u:List Int) (k:Nat):cf [] u k=0:=rfl
theorem zAm (t:Trm) (h:List Trm) (u:List Int) (k:Nat):cf (t::h) u k=(if t.1=u then num t.2 k else 0)+cf h u k:=by simp [cf]
theorem zGp (g h:List Trm) (u:List Int) (k:Nat):cf (g++h) u k=cf g u k+cf h u k:=by simp [cf]
theorem zLi {g h:List Trm} (p:g.Perm h) (u:List Int) (k:Nat):cf g u k=cf h u k:=by
 induction p with
 | nil=>rfl
 | cons t _ ih=>rw [zAm,zAm,ih]
 | swap s t l=>rw [zAm,zAm,zAm,zAm]; omega
 | trans _ _ h1 h2=>rw [h1,h2]
theorem zCr {h:List Trm} {u:List Int} (hu:∀t∈h,t.1≠u) (k:Nat):cf h u k=0:=by
 induction h with
 | nil=>rfl
 | cons t h ih=>rw [zAm,if_neg (hu t (List.mem_cons_self ..)),ih (fun s hs=>hu s (List.mem_cons_of_mem _ hs))]; rfl
theorem zC3 (u:List Int):cmpW u u=0:=zCA.2 rfl
theorem zBX {u v:List Int} (h:cmpW u v<0):v≠u:=by
 rintro rfl;rw [zC3] at h;omega
theorem zBQ {x y z:List Int} (h1:cmpW x y<0) (h2:cmpW y z<0):cmpW x z<0:=by
 have h:=zDY (Int.le_of_lt h1) (Int.le_of_lt h2);rcases Int.lt_or_eq_of_le h with h | h
 ·exact h
 ·have e:=zCA.1 h;subst e;rw [zC4] at h2;omega
theorem Can.tail {t:Trm} {h:List Trm} (c:Can (t::h)):Can h∧∀s∈h,cmpW t.1 s.1<0 :=
 ⟨⟨(List.pairwise_cons.1 c.srt).2,fun s hs=>c.ne s (List.mem_cons_of_mem _ hs),fun s hs=>c.tr s (List.mem_cons_of_mem _ hs),fun s hs=>c.inn s (List.mem_cons_of_mem _ hs)⟩,(List.pairwise_cons.1 c.srt).1⟩
theorem Can.cons {t:Trm} {h:List Trm} (c:Can h) (h1:∀s∈h,cmpW t.1 s.1<0) (h2:t.2≠[]) (h3:Trd t.2) (h4:InI t.2):Can (t::h) :=
 ⟨List.pairwise_cons.2 ⟨h1,c.srt⟩,fun s hs=>by rcases List.mem_cons.1 hs with rfl | hs; exact h2; exact c.ne s hs,fun s hs=>by rcases List.mem_cons.1 hs with rfl | hs; exact h3; exact c.tr s hs,
  fun s hs=>by rcases List.mem_cons.1 hs with rfl | hs; exact h4; exact c.inn s hs⟩
theorem Can.nil:Can []:=⟨List.Pairwise.nil,fun t h=>by simp at h,fun t h=>by simp at h,fun t h=>by simp at h⟩
theorem Can.head {t:Trm} {h:List Trm} (c:Can (t::h)) (k:Nat):cf (t::h) t.1 k=num t.2 k:=by
 rw [zAm,if_pos rfl,zCr (fun s hs=>zBX (c.tail.2 s hs))]; omega
theorem Can.absent {t:Trm} {h g:List Trm} (c:Can (t::h)) (hg:∀s∈g,s.1≠t.1) (e:∀u k,wrap64 (cf (t::h) u k)=wrap64 (cf g u k)):False:=by
 refine c.ne t (List.mem_cons_self ..) (zF6 (c.tr t (List.mem_cons_self ..)) (.inl rfl) fun k=>?_);have h1:=e t.1 k;rw [c.head,zCr hg,zCI ((c.inn t (List.mem_cons_self ..)).num k)] at h1;rw [h1,zBD (Nat.zero_le _)]; unfold wrap64; omega
theorem zFo:∀{g h:List Trm},Can g→Can h→(∀u k,wrap64 (cf g u k)=wrap64 (cf h u k))→g=h
 | [],[],_,_,_=>rfl
 | t::g,[],c,_,e=>(c.absent (fun s hs=>by simp at hs) e).elim
 | [],t::h,_,c,e=>(c.absent (fun s hs=>by simp at hs) (fun u k=>(e u k).symm)).elim
 | t::g,s::h,c,d,e=>by
  have hts:t.1=s.1:=by
   have h3:cmpW t.1 s.1<0∨cmpW t.1 s.1=0∨cmpW s.1 t.1<0:=by rw [zC4 t.1 s.1]; omega
   rcases h3 with h3 | h3 | h3
   ·refine (c.absent (fun r hr=>?_) e).elim;rcases List.mem_cons.1 hr with rfl | hr
    ·exact zBX h3
    ·exact zBX (zBQ h3 (d.tail.2 r hr))
   ·exact zCA.1 h3
   ·refine (d.absent (fun r hr=>?_) (fun u k=>(e u k).symm)).elim;rcases List.mem_cons.1 hr with rfl | hr
    ·exact zBX h3
    ·exact zBX (zBQ h3 (c.tail.2 r hr))
  have hp:t.2=s.2:=zF6 (c.tr t (List.mem_cons_self ..)) (d.tr s (List.mem_cons_self ..)) fun k=>by
   have h1:=e t.1 k;rw [c.head,hts,d.head,zCI ((c.inn t (List.mem_cons_self ..)).num k),zCI ((d.inn s (List.mem_cons_self ..)).num k)] at h1;exact h1
  have ets:t=s:=Prod.ext hts hp;subst ets;have:=zFo c.tail.1 d.tail.1 fun u k=>by
   by_cases hu:t.1=u
   ·subst hu;rw [zCr (fun r hr=>zBX (c.tail.2 r hr)),zCr (fun r hr=>zBX (d.tail.2 r hr))]
   ·have:=e u k;rw [zAm,zAm,if_neg hu] at this;simpa using this
  rw [this]
def putT (w p:List Int):List Trm→List Trm
 | []=>if p=[] then [] else [(w,p)]
 |t::h=>if cmpW w t.1<0 then (if p=[] then [] else [(w,p)])++t::h
  else if cmpW w t.1=0 then (if addP t.2 p=[] then [] else [(w,addP t.2 p)])++h else t::putT w p h
theorem zGq (w p:List Int) (u:List Int) (k:Nat):cf (if p=[] then [] else [(w,p)]) u k=if w=u then num p k else 0:=by
 by_cases hp:p=[]
 ·rw [if_pos hp,hp]; simp [cf,num]
 ·rw [if_neg hp]; simp [cf]
theorem Can.one {w p:List Int} {h:List Trm} (c:Can h) (h1:∀s∈h,cmpW w s.1<0) (h3:Trd p) (h4:InI p):Can ((if p=[] then [] else [(w,p)])++h):=by
 by_cases hp:p=[]
 ·rw [if_pos hp]; exact c
 ·rw [if_neg hp]; exact c.cons h1 hp h3 h4
theorem zHW {w p u:List Int}:∀{h:List Trm},cmpW u w<0→(∀s∈h,cmpW u s.1<0)→∀s∈putT w p h,cmpW u s.1<0
 | [],hw,_,s,hs=>by
  unfold putT at hs;split at hs
  ·simp at hs
  ·simp at hs; subst hs; exact hw
 | t::h,hw,hh,s,hs=>by
  unfold putT at hs;split at hs
  ·rw [List.mem_append] at hs;rcases hs with hs | hs
   ·split at hs
    ·simp at hs
    ·simp at hs; subst hs; exact hw
   ·exact hh s hs
  ·split at hs
   ·rw [List.mem_append] at hs;rcases hs with hs | hs
    ·split at hs
     ·simp at hs
     ·simp at hs; subst hs; exact hw
    ·exact hh s (List.mem_cons_of_mem _ hs)
   ·rcases List.mem_cons.1 hs with rfl | hs
    ·exact hh s (List.mem_cons_self ..)
    ·exact zHW hw (fun r hr=>hh r (List.mem_cons_of_mem _ hr)) s hs
theorem zHU {w p:List Int} (h3:Trd p) (h4:InI p):∀{h:List Trm},Can h→Can (putT w p h)∧∀u k,wrap64 (cf (putT w p h) u k)=wrap64 (cf h u k+if w=u then num p k else 0)
 | [],c=>by
  unfold putT;refine ⟨by have:=Can.one (w:=w) c (fun s hs=>by simp at hs) h3 h4; rwa [List.append_nil] at this,fun u k=>?_⟩;rw [zGq,zFB,Int.zero_add]
 | t::h,c=>by
  unfold putT;by_cases h1:cmpW w t.1<0
  ·rw [if_pos h1];refine ⟨c.one (fun s hs=>?_) h3 h4,fun u k=>?_⟩
   ·rcases List.mem_cons.1 hs with rfl | hs
    ·exact h1
    ·exact zBQ h1 (c.tail.2 s hs)
   ·rw [zGp,zGq,Int.add_comm]
  ·rw [if_neg h1];by_cases h2:cmpW w t.1=0
   ·rw [if_pos h2];have e:=zCA.1 h2;subst e;refine ⟨c.tail.1.one c.tail.2 (zE3 _ _) (zEL _ _),fun u k=>?_⟩;rw [zGp,zGq,zAm,zEx];by_cases hu:t.1=u
    ·rw [if_pos hu,if_pos hu,if_pos hu,zGZ];congr 1; omega
    ·rw [if_neg hu,if_neg hu,if_neg hu];congr 1; omega
   ·rw [if_neg h2];have h5:cmpW t.1 w<0:=by rw [zC4]; omega
    obtain ⟨c1,c2⟩:=zHU (w:=w) h3 h4 c.tail.1;refine ⟨c1.cons (zHW h5 c.tail.2) (c.ne t (List.mem_cons_self ..)) (c.tr t (List.mem_cons_self ..)) (c.inn t (List.mem_cons_self ..)),fun u k=>?_⟩;rw [zAm,zAm];have:=c2 u k;unfold wrap64 at this ⊢;omega
def grpT (acc:List Trm) (t:Trm):List Trm :=
 match acc.getLast? with
 | some l=>if l.1=t.1 then acc.dropLast++[(l.1,addP l.2 t.2)] else acc++[(t.1,trim t.2)]
 | none=>[(t.1,trim t.2)]
theorem zDa (t:Trm):grpT [] t=[(t.1,trim t.2)]:=rfl
theorem zC7 (acc:List Trm) (l t:Trm):grpT (acc++[l]) t=if l.1=t.1 then acc++[(l.1,addP l.2 t.2)] else (acc++[l])++[(t.1,trim t.2)]:=by
 unfold grpT;simp
theorem zBG {α:Type} (l:List α):l=[]∨∃a x,l=a++[x]:=by
 rcases List.eq_nil_or_concat l with h | ⟨a,x,h⟩
 ·exact .inl h
 ·exact .inr ⟨a,x,by rw [h,List.concat_eq_append]⟩
structure Gr (acc:List Trm):Prop where
 srt:acc.Pairwise fun a b=>cmpW a.1 b.1<0
 tr:∀t∈acc,Trd t.2
 inn:∀t∈acc,InI t.2
theorem Gr.nil:Gr []:=⟨List.Pairwise.nil,fun t h=>by simp at h,fun t h=>by simp at h⟩
theorem Gr.snoc {acc:List Trm} {t:Trm} (g:Gr acc) (h:∀s∈acc,cmpW s.1 t.1<0) (h2:Trd t.2) (h3:InI t.2):Gr (acc++[t]) :=
 ⟨List.pairwise_append.2 ⟨g.srt,List.pairwise_singleton ..,fun s hs r hr=>by rw [List.mem_singleton] at hr; subst hr; exact h s hs⟩,
  fun s hs=>by rcases List.mem_append.1 hs with hs | hs; exact g.tr s hs; rw [List.mem_singleton] at hs; subst hs; exact h2,
  fun s hs=>by rcases List.mem_append.1 hs with hs | hs; exact g.inn s hs; rw [List.mem_singleton] at hs; subst hs; exact h3⟩
theorem Gr.init {acc:List Trm} {t:Trm} (g:Gr (acc++[t])):Gr acc∧∀s∈acc,cmpW s.1 t.1<0 :=
 ⟨⟨(List.pairwise_append.1 g.srt).1,fun s hs=>g.tr s (List.mem_append_left _ hs),fun s hs=>g.inn s (List.mem_append_left _ hs)⟩,
  fun s hs=>(List.pairwise_append.1 g.srt).2.2 s hs t (List.mem_singleton.2 rfl)⟩
theorem zF7 {p:List Int} (h:InI p):InI (trim p):=fun x hx=>h x (zCY hx)
theorem zDH (g:List Trm) (t:Trm) (u:List Int) (k:Nat):cf (g++[t]) u k=cf g u k+(if t.1=u then num t.2 k else 0):=by
 rw [zGp,zAm,zFB]; omega
theorem zJi {acc:List Trm} {t:Trm} (g:Gr acc) (ht:InI t.2) (hle:∀s∈acc,cmpW s.1 t.1≤0) :
  Gr (grpT acc t)∧(∀s∈grpT acc t,cmpW s.1 t.1≤0)∧∀u k,wrap64 (cf (grpT acc t) u k)=wrap64 (cf acc u k+if t.1=u then num t.2 k else 0):=by
 rcases zBG acc with rfl | ⟨a,l,rfl⟩
 ·rw [zDa];refine ⟨(Gr.nil).snoc (t:=(t.1,trim t.2)) (fun s hs=>by simp at hs) (zCW _) (zF7 ht),fun s hs=>?_,fun u k=>?_⟩
  ·rw [List.mem_singleton] at hs; subst hs; rw [zC3]; exact Int.le_refl _
  ·rw [zAm,zFB,zB7,Int.zero_add,Int.add_zero]
 ·rw [zC7];by_cases h:l.1=t.1
  ·rw [if_pos h];obtain ⟨g1,g2⟩:=g.init;refine ⟨g1.snoc (t:=(l.1,addP l.2 t.2)) g2 (zE3 _ _) (zEL _ _),fun s hs=>?_,fun u k=>?_⟩
   ·rcases List.mem_append.1 hs with hs | hs
    ·exact hle s (List.mem_append_left _ hs)
    ·rw [List.mem_singleton] at hs; subst hs; rw [h,zC3]; exact Int.le_refl _
   ·rw [zDH,zDH,zEx,<-h];by_cases hu:l.1=u
    ·rw [if_pos hu,if_pos hu,if_pos hu,Int.add_comm,zGZ];congr 1; omega
    ·rw [if_neg hu,if_neg hu,if_neg hu];congr 1; omega
  ·rw [if_neg h];have hlt:∀s∈a++[l],cmpW s.1 t.1<0:=fun s hs=>by
    have hl:cmpW l.1 t.1<0:=by
     have h1:=hle l (List.mem_append_right _ (List.mem_singleton.2 rfl));rcases Int.lt_or_eq_of_le h1 with h1 | h1
     ·exact h1
     ·exact absurd (zCA.1 h1) h
    rcases List.mem_append.1 hs with hs | hs
    ·exact zBQ (g.init.2 s hs) hl
    ·rw [List.mem_singleton] at hs; subst hs; exact hl
   refine ⟨g.snoc (t:=(t.1,trim t.2)) hlt (zCW _) (zF7 ht),fun s hs=>?_,fun u k=>?_⟩
   ·rcases List.mem_append.1 hs with hs | hs
    ·exact hle s hs
    ·rw [List.mem_singleton] at hs; subst hs; rw [zC3]; exact Int.le_refl _
   ·rw [zDH];show wrap64 (_+if t.1=u then num (trim t.2) k else 0)=_;rw [zB7]
def zA0 (L:List Trm):List Trm:=L.foldl grpT []
theorem zDb (L:List Trm) (t:Trm):zA0 (L++[t])=grpT (zA0 L) t:=by unfold zA0; rw [List.foldl_append]; rfl
theorem zIG:∀(n:Nat) (L:List Trm),L.length=n→L.Pairwise (fun a b=>cmpW a.1 b.1≤0)→(∀t∈L,InI t.2) →
  Gr (zA0 L)∧(∀s∈zA0 L,∀z,(∀t∈L,cmpW t.1 z≤0)→cmpW s.1 z≤0)∧∀u k,wrap64 (cf (zA0 L) u k)=wrap64 (cf L u k)
 | 0,L,hn,_,_=>by
  have:=List.eq_nil_of_length_eq_zero hn;subst this;exact ⟨Gr.nil,fun s hs=>by simp [zA0] at hs,fun _ _=>rfl⟩
 | n+1,L,hn,hs,hi=>by
  rcases zBG L with rfl | ⟨a,t,rfl⟩
  ·simp at hn
  ·have ha:a.length=n:=by simp at hn; exact hn
   obtain ⟨g1,g2,g3⟩:=zIG n a ha (List.pairwise_append.1 hs).1 (fun s h=>hi s (List.mem_append_left _ h));have hle:∀s∈a,cmpW s.1 t.1≤0:=fun s h=>(List.pairwise_append.1 hs).2.2 s h t (List.mem_singleton.2 rfl);obtain ⟨r1,r2,r3⟩:=zJi g1 (hi t (List.mem_append_right _ (List.mem_singleton.2 rfl))) (fun s h=>g2 s h t.1 hle);rw [zDb];refine ⟨r1,fun s h z hz=>zDY (r2 s h) (hz t (List.mem_append_right _ (List.mem_singleton.2 rfl))),fun u k=>?_⟩;rw [r3,zDH];have:=g3 u k;unfold wrap64 at this ⊢;omega
def full (t:Trm):Bool:=!t.2.isEmpty
theorem zGz {t:Trm}:full t=true↔t.2≠[]:=by
 unfold full;cases t.2 <;> simp
theorem Gr.can {acc:List Trm} (g:Gr acc):Can (acc.filter full)∧∀u k,cf (acc.filter full) u k=cf acc u k:=by
 refine ⟨⟨g.srt.sublist List.filter_sublist,fun t h=>zGz.1 (List.mem_filter.1 h).2,fun t h=>g.tr t (List.mem_filter.1 h).1,fun t h=>g.inn t (List.mem_filter.1 h).1⟩,fun u k=>?_⟩;clear g
 induction acc with
 | nil=>rfl
 | cons t acc ih =>
  rw [List.filter_cons];by_cases h:full t=true
  ·rw [if_pos h,zAm,zAm,ih]
  ·rw [if_neg h,zAm,ih];have:t.2=[]:=by
    cases e:t.2 with
    | nil=>rfl
    | cons a b=>exact absurd (zGz.2 (by rw [e]; simp)) h
   rw [this,zBD (Nat.zero_le _)];split <;> omega
def coll (M:List Trm):List Trm:=(zA0 M).filter full
def puts (L:List Trm):List Trm:=L.foldl (fun h t=>putT t.1 t.2 h) []
theorem zCG (L:List Trm) (t:Trm):puts (L++[t])=putT t.1 t.2 (puts L):=by unfold puts; rw [List.foldl_append]; rfl
theorem zA1:∀(n:Nat) (L:List Trm),L.length=n→(∀t∈L,Trd t.2∧InI t.2)→Can (puts L)∧∀u k,wrap64 (cf (puts L) u k)=wrap64 (cf L u k)
 | 0,L,hn,_=>by
  have:=List.eq_nil_of_length_eq_zero hn;subst this;exact ⟨Can.nil,fun _ _=>rfl⟩
 | n+1,L,hn,hi=>by
  rcases zBG L with rfl | ⟨a,t,rfl⟩
  ·simp at hn
  ·have ha:a.length=n:=by simp at hn; exact hn
   obtain ⟨g1,g3⟩:=zA1 n a ha (fun s h=>hi s (List.mem_append_left _ h));have ht:=hi t (List.mem_append_right _ (List.mem_singleton.2 rfl));obtain ⟨r1,r3⟩:=zHU (w:=t.1) ht.1 ht.2 g1;rw [zCG];refine ⟨r1,fun u k=>?_⟩;rw [r3,zDH];have:=g3 u k;unfold wrap64 at this ⊢;omega
theorem zJb {L M:List Trm} (p:M.Perm L) (hs:M.Pairwise (fun a b=>cmpW a.1 b.1≤0)) (hi:∀t∈L,Trd t.2∧InI t.2):coll M=puts L:=by
 obtain ⟨g1,_,g3⟩:=zIG _ M rfl hs (fun t h=>(hi t (p.mem_iff.1 h)).2);obtain ⟨c1,c2⟩:=g1.can;obtain ⟨d1,d2⟩:=zA1 _ L rfl hi;exact zFo c1 d1 fun u k=>by
  show wrap64 (cf ((zA0 M).filter full) u k)=_;rw [c2,g3,d2,zLi p]
def one1 (w p:List Int):List Trm:=if p=[] then [] else [(w,p)]
def zBH (w p:List Int) (s:List Trm × Bool) (t:Trm):List Trm × Bool :=
 if cmpW w t.1=0 then (s.1++one1 w (addP t.2 p),true)
 else if cmpW w t.1<0∧s.2=false then ((s.1++one1 w p)++[t],true)
 else (s.1++[t],s.2)
def endP (w p:List Int) (s:List Trm × Bool):List Trm:=if s.2=true then s.1 else s.1++one1 w p
def putF (w p:List Int) (h:List Trm):List Trm × Bool:=h.foldl (zBH w p) ([],false)
theorem zKG {w p:List Int} {L:List Trm} {k:Nat} {t:Trm} (h:L[k]? = some t):putF w p (L.take (k+1))=zBH w p (putF w p (L.take k)) t:=by
 rw [zAV h];unfold putF;rw [List.foldl_append]; rfl
theorem zHP (w p:List Int):(one1 w p).length≤1:=by unfold one1; split <;> simp
theorem zJF (w p:List Int) (s:List Trm × Bool) (t:Trm):(zBH w p s t).1.length+(if (zBH w p s t).2 then 0 else 1)≤s.1.length+(if s.2 then 0 else 1)+1:=by
 have h1:=zHP w p;have h2:=zHP w (addP t.2 p);unfold zBH;by_cases c0:cmpW w t.1=0
 ·rw [if_pos c0]; simp; omega
 ·rw [if_neg c0];by_cases c1:cmpW w t.1<0∧s.2=false
  ·rw [if_pos c1,c1.2]; simp; omega
  ·rw [if_neg c1]; simp; omega
theorem zHT (w p:List Int):∀(L:List Trm) (s:List Trm × Bool),(L.foldl (zBH w p) s).1.length+(if (L.foldl (zBH w p) s).2 then 0 else 1)≤s.1.length+(if s.2 then 0 else 1)+L.length
 | [],s=>by rw [List.foldl_nil,List.length_nil]; omega
 | t::L,s=>by
  have h1:=zJF w p s t;have h2:=zHT w p L (zBH w p s t);rw [List.foldl_cons,List.length_cons];omega
theorem zDj {w p:List Int}:∀{h:List Trm} {acc:List Trm},(∀t∈h,cmpW w t.1<0)→h.foldl (zBH w p) (acc,true)=(acc++h,true)
 | [],acc,_=>by simp
 | t::h,acc,hh=>by
  have h1:=hh t (List.mem_cons_self ..);rw [List.foldl_cons];have:zBH w p (acc,true) t=(acc++[t],true):=by unfold zBH; rw [if_neg (by omega),if_neg (by simp)]
  rw [this,zDj (fun s hs=>hh s (List.mem_cons_of_mem _ hs)),List.append_assoc]; rfl
theorem zHS {w p:List Int}:∀{h:List Trm} {acc:List Trm},Can h→endP w p (h.foldl (zBH w p) (acc,false))=acc++putT w p h
 | [],acc,_=>by simp [endP,putT,one1]
 | t::h,acc,c=>by
  rw [List.foldl_cons];unfold putT;by_cases h1:cmpW w t.1<0
  ·rw [if_pos h1];have:zBH w p (acc,false) t=((acc++one1 w p)++[t],true):=by unfold zBH; rw [if_neg (by omega),if_pos ⟨h1,rfl⟩]
   rw [this,zDj (fun s hs=>zBQ h1 (c.tail.2 s hs))];simp [endP,one1]
  ·rw [if_neg h1];by_cases h2:cmpW w t.1=0
   ·rw [if_pos h2];have:zBH w p (acc,false) t=(acc++one1 w (addP t.2 p),true):=by unfold zBH; rw [if_pos h2]
    have e:=zCA.1 h2;rw [this,zDj (fun s hs=>by rw [e]; exact c.tail.2 s hs)];simp [endP,one1]
   ·rw [if_neg h2];have:zBH w p (acc,false) t=(acc++[t],false):=by unfold zBH; rw [if_neg h2,if_neg (by omega)]
    rw [this,zHS c.tail.1,List.append_assoc]; rfl
theorem zF2 {w p:List Int} {h:List Trm} (c:Can h):endP w p (putF w p h)=putT w p h:=by
 have:=zHS (w:=w) (p:=p) (acc:=[]) c;rwa [List.nil_append] at this
theorem zMP (w p:List Int) (L:List Trm) (k:Nat):(putF w p (L.take k)).1.length≤k+1:=by
 have:=zHT w p (L.take k) ([],false);have h2:(L.take k).length≤k:=by simp; omega
 unfold putF;simp at this ⊢;omega
set_option maxRecDepth 20000
def zAl (a b:List Int) (i:Nat) (O:List Int):Nat→List Int
 | 0=>O
 | k+1=>(zAl a b i O k).set (i+k) (wrap64 (num (zAl a b i O k) (i+k)+wrap64 (num a i*num b k)))
def zAY (a b:List Int):Nat→List Int
 | 0=>List.replicate (a.length+b.length-1) 0
 | i+1=>zAl a b i (zAY a b i) b.length
def mulP (a b:List Int):List Int:=if a.length=0∨b.length=0∨62<a.length+b.length then [] else trim (zAY a b a.length)
theorem zCL (a b:List Int) (i:Nat) (O:List Int):∀k,(zAl a b i O k).length=O.length
 | 0=>rfl
 | k+1=>by unfold zAl; rw [List.length_set,zCL a b i O k]
theorem zBo (a b:List Int):∀i,(zAY a b i).length=a.length+b.length-1
 | 0=>by simp [zAY]
 | i+1=>by unfold zAY; rw [zCL,zBo a b i]
theorem zHz (x:Int):-9223372036854775808≤wrap64 x∧wrap64 x≤9223372036854775807:=by unfold wrap64; omega
theorem zGP (a b:List Int) (i:Nat) (O:List Int) (h:InI O):∀k,InI (zAl a b i O k)
 | 0=>h
 | k+1=>fun x hx=>by
  unfold zAl at hx;rcases List.mem_or_eq_of_mem_set hx with hx | rfl
  ·exact zGP a b i O h k x hx
  ·exact zHz _
theorem zHJ (a b:List Int):∀i,InI (zAY a b i)
 | 0=>fun x hx=>by
  unfold zAY at hx;have:=List.eq_of_mem_replicate hx;omega
 | i+1=>by unfold zAY; exact zGP a b i _ (zHJ a b i) _
theorem zDO (a b:List Int):Trd (mulP a b)∧InI (mulP a b)∧(mulP a b).length≤62:=by
 unfold mulP;split
 ·exact ⟨.inl rfl,fun x hx=>by simp at hx,by simp⟩
 ·refine ⟨zCW _,fun x hx=>zHJ a b _ x (zCY hx),?_⟩;have:=zCX (zAY a b a.length);rw [zBo] at this;omega
end Go.Proofs.YtlchafedbnihoaaGreatDoor
