/- Terms in order with a polynomial each: such a list is known by its coefficients; adding a term; joining equal words in a sorted list. Plain lists. -/
import Derived.Test.YtlgcdacpjcnjgaaGreatDoorJGMrg
import Derived.Test.YtlgcdacpjcnjgaaGreatDoorJOff
import Derived.Shelf.RegionOpenPlain
import Derived.Test.YtlgcdacpjcnjgaaGreatDoorJGKeys
namespace Go.Proofs.YtlgcdacpjcnjgaaGreatDoor
open Go.RowKit
theorem zGp (p:List Int):∀n,zAl p n=0∨num p (zAl p n-1)≠0
 | 0=>.inl rfl
 | n+1=>by
  unfold zAl;by_cases h:num p n=0
  ·rw [if_pos h]; exact zGp p n
  ·rw [if_neg h]; exact .inr (by rwa [Nat.add_sub_cancel])
theorem zFH (p:List Int):∀n k,zAl p n≤k→k<n→num p k=0
 | 0,k,_,h=>absurd h (Nat.not_lt_zero _)
 | n+1,k,h1,h2=>by
  unfold zAl at h1;by_cases h:num p n=0
  ·rw [if_pos h] at h1;by_cases hk:k=n
   ·rw [hk]; exact h
   ·exact zFH p n k h1 (by omega)
  ·rw [if_neg h] at h1; omega
theorem zF8 (p:List Int):(trim p).length=zAl p p.length:=by
 have:=zH5 p p.length;unfold trim; simp; omega
theorem zB5 (p:List Int) (k:Nat):num (trim p) k=num p k:=by
 by_cases h:k<zAl p p.length
 ·unfold trim num;rw [List.getElem?_take,if_pos h]
 ·rw [zBa (by rw [zF8]; omega)];by_cases h2:k<p.length
  ·exact (zFH p p.length k (by omega) h2).symm
  ·exact (zBa (by omega)).symm
def Trd (p:List Int):Prop:=p=[]∨num p (p.length-1)≠0
theorem zDg (p:List Int):Trd (trim p):=by
 rcases zGp p p.length with h | h
 ·exact .inl (List.eq_nil_of_length_eq_zero (by rw [zF8,h]))
 ·exact .inr (by rw [zB5,zF8]; exact h)
theorem zHB {p q:List Int} (hp:Trd p) (hq:Trd q) (h:∀k,num p k=num q k):p=q:=by
 have key:∀{p q:List Int},Trd q→(∀k,num p k=num q k)→q.length≤p.length:=by
  intro p q hq h;rcases hq with rfl | hq
  ·exact Nat.zero_le _
  ·rcases Nat.lt_or_ge (q.length-1) p.length with h1 | h1
   ·omega
   ·rw [<-h,zBa h1] at hq; exact absurd rfl hq
 have hl:p.length=q.length:=Nat.le_antisymm (key hp (fun k=>(h k).symm)) (key hq h);apply List.ext_getElem?;intro k;by_cases hk:k<p.length
 ·have:=h k;unfold num at this;rw [zTE hk,zTE (by omega)] at this ⊢;exact congrArg some this
 ·rw [List.getElem?_eq_none (by omega),List.getElem?_eq_none (by omega)]
theorem zPD (a b:List Int) (k:Nat):num (addP a b) k=wrap64 (num a k+num b k):=by
 unfold addP;rw [zB5];by_cases h:k<max a.length b.length
 ·unfold zBC;rw [num];rw [List.getElem?_map,List.getElem?_range h];rfl
 ·rw [zBa (by simp [zBC]; omega),zBa (by omega),zBa (by omega)];unfold wrap64; omega
theorem zEY (a b:List Int):Trd (addP a b):=zDg _
theorem InI.num {p:List Int} (h:InI p) (k:Nat):-9223372036854775808≤num p k∧num p k≤9223372036854775807:=by
 unfold Proofs.YtlgcdacpjcnjgaaGreatDoor.num;cases e:p[k]? with
 | none=>simp
 | some x=>exact h x (zTF e)
structure Can (h:List Trm):Prop where
 srt:h.Pairwise fun a b=>cmpW a.1 b.1<0
 ne:∀t∈h,t.2≠[]
 tr:∀t∈h,Trd t.2
 inn:∀t∈h,InI t.2
def cf (h:List Trm) (u:List Int) (k:Nat):Int:=(h.map fun t=>if t.1=u then num t.2 k else 0).sum
theorem zKD (t:Trm) (h:List Trm) (u:List Int) (k:Nat):cf (t::h) u k=(if t.1=u then num t.2 k else 0)+cf h u k:=by simp [cf]
theorem zRw {h:List Trm} {u:List Int} (hu:∀t∈h,t.1≠u) (k:Nat):cf h u k=0:=by
 induction h with
 | nil=>rfl
 | cons t h ih=>rw [zKD,if_neg (hu t (List.mem_cons_self ..)),ih (fun s hs=>hu s (List.mem_cons_of_mem _ hs))]; rfl
theorem zL7 (u:List Int):cmpW u u=0:=zCR.2 rfl
theorem zLL {u v:List Int} (h:cmpW u v<0):v≠u:=by
 rintro rfl;rw [zL7] at h;omega
theorem Can.tail {t:Trm} {h:List Trm} (c:Can (t::h)):Can h∧∀s∈h,cmpW t.1 s.1<0 :=
 ⟨⟨(List.pairwise_cons.1 c.srt).2,fun s hs=>c.ne s (List.mem_cons_of_mem _ hs),fun s hs=>c.tr s (List.mem_cons_of_mem _ hs),fun s hs=>c.inn s (List.mem_cons_of_mem _ hs)⟩,(List.pairwise_cons.1 c.srt).1⟩
theorem Can.cons {t:Trm} {h:List Trm} (c:Can h) (h1:∀s∈h,cmpW t.1 s.1<0) (h2:t.2≠[]) (h3:Trd t.2) (h4:InI t.2):Can (t::h) :=
 ⟨List.pairwise_cons.2 ⟨h1,c.srt⟩,fun s hs=>by rcases List.mem_cons.1 hs with rfl | hs; exact h2; exact c.ne s hs,fun s hs=>by rcases List.mem_cons.1 hs with rfl | hs; exact h3; exact c.tr s hs,
  fun s hs=>by rcases List.mem_cons.1 hs with rfl | hs; exact h4; exact c.inn s hs⟩
theorem Can.nil:Can []:=⟨List.Pairwise.nil,fun t h=>by simp at h,fun t h=>by simp at h,fun t h=>by simp at h⟩
theorem Can.head {t:Trm} {h:List Trm} (c:Can (t::h)) (k:Nat):cf (t::h) t.1 k=num t.2 k:=by
 rw [zKD,if_pos rfl,zRw (fun s hs=>zLL (c.tail.2 s hs))]; omega
theorem Can.one {w p:List Int} {h:List Trm} (c:Can h) (h1:∀s∈h,cmpW w s.1<0) (h3:Trd p) (h4:InI p):Can ((if p=[] then [] else [(w,p)])++h):=by
 by_cases hp:p=[]
 ·rw [if_pos hp]; exact c
 ·rw [if_neg hp]; exact c.cons h1 hp h3 h4
set_option maxRecDepth 20000
def zAe (a b:List Int) (i:Nat) (O:List Int):Nat→List Int
 | 0=>O
 | k+1=>(zAe a b i O k).set (i+k) (wrap64 (num (zAe a b i O k) (i+k)+wrap64 (num a i*num b k)))
def zAV (a b:List Int):Nat→List Int
 | 0=>List.replicate (a.length+b.length-1) 0
 | i+1=>zAe a b i (zAV a b i) b.length
def mulP (a b:List Int):List Int:=if a.length=0∨b.length=0∨62<a.length+b.length then [] else trim (zAV a b a.length)
theorem zCb (a b:List Int) (i:Nat) (O:List Int):∀k,(zAe a b i O k).length=O.length
 | 0=>rfl
 | k+1=>by unfold zAe; rw [List.length_set,zCb a b i O k]
theorem zBo (a b:List Int):∀i,(zAV a b i).length=a.length+b.length-1
 | 0=>by simp [zAV]
 | i+1=>by unfold zAV; rw [zCb,zBo a b i]
theorem zJ3 (x:Int):-9223372036854775808≤wrap64 x∧wrap64 x≤9223372036854775807:=by unfold wrap64; omega
theorem zHk (a b:List Int) (i:Nat) (O:List Int) (h:InI O):∀k,InI (zAe a b i O k)
 | 0=>h
 | k+1=>fun x hx=>by
  unfold zAe at hx;rcases List.mem_or_eq_of_mem_set hx with hx | rfl
  ·exact zHk a b i O h k x hx
  ·exact zJ3 _
theorem zI5 (a b:List Int):∀i,InI (zAV a b i)
 | 0=>fun x hx=>by
  unfold zAV at hx;have:=List.eq_of_mem_replicate hx;omega
 | i+1=>by unfold zAV; exact zHk a b i _ (zI5 a b i) _
theorem zKi (a b:List Int):Trd (mulP a b)∧InI (mulP a b)∧(mulP a b).length≤62:=by
 unfold mulP;split
 ·exact ⟨.inl rfl,fun x hx=>by simp at hx,by simp⟩
 ·refine ⟨zDg _,fun x hx=>zI5 a b _ x (zEZ hx),?_⟩;have:=zDO (zAV a b a.length);rw [zBo] at this;omega
end Go.Proofs.YtlgcdacpjcnjgaaGreatDoor
