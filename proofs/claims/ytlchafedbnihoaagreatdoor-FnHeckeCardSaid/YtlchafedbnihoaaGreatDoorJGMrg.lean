/- Lists that are put in order by exchanges: what merging in place needs. Plain. No condition. -/
import Derived.Test.YtlchafedbnihoaaGreatDoorJGBase
namespace Go.Proofs.YtlchafedbnihoaaGreatDoor
namespace Mrg
set_option maxRecDepth 20000
section
variable {α:Type}
theorem zF8 (P Q R:List α) (x y:α) :
  (P++x::(Q++y::R))[P.length]? = some x∧(P++x::(Q++y::R))[P.length+1+Q.length]? = some y ∧
  ((P++x::(Q++y::R)).set P.length y).set (P.length+1+Q.length) x=P++y::(Q++x::R):=by
 refine ⟨by simp,?_,?_⟩
 ·rw [List.getElem?_append_right (by omega),show P.length+1+Q.length-P.length=Q.length+1 by omega,List.getElem?_cons_succ,List.getElem?_append_right (zNl _)];simp
 ·rw [List.set_append_right _ _ (zNl _),Nat.sub_self,List.set_cons_zero,List.set_append_right _ _ (by omega),show P.length+1+Q.length-P.length=Q.length+1 by omega,List.set_cons_succ,List.set_append_right _ _ (zNl _),Nat.sub_self,List.set_cons_zero]
def swK (A B C D E:List α) (k:Nat):List α:=A++((D.take k++B.drop k)++(C++((B.take k++D.drop k)++E)))
theorem zLH (A B C D E:List α):swK A B C D E 0=A++(B++(C++(D++E))):=by simp [swK]
theorem zMj {A B C D E:List α} (h:B.length=D.length):swK A B C D E B.length=A++(D++(C++(B++E))):=by
 unfold swK;rw [List.take_length,List.drop_length,h,List.take_length,List.drop_length];simp
theorem zLG {A B C D E:List α} {k:Nat} (h:B.length=D.length) (hk:k<B.length):∃x y,(swK A B C D E k)[A.length+k]? = some x∧(swK A B C D E k)[A.length+B.length+C.length+k]? = some y ∧
  ((swK A B C D E k).set (A.length+k) y).set (A.length+B.length+C.length+k) x=swK A B C D E (k+1):=by
 have hx:B[k]? = some B[k]:=by simp [hk]
 have hy:D[k]? = some (D[k]'(by omega)):=by simp [show k<D.length by omega]
 refine ⟨B[k],D[k]'(by omega),?_⟩;have e0:swK A B C D E k=(A++D.take k)++B[k]::((B.drop (k+1)++(C++B.take k))++D[k]'(by omega)::(D.drop (k+1)++E)):=by
  unfold swK;rw [zAJ hx,zAJ hy];simp only [List.append_assoc,List.cons_append,List.nil_append]
 have e1:swK A B C D E (k+1)=(A++D.take k)++D[k]'(by omega)::((B.drop (k+1)++(C++B.take k))++B[k]::(D.drop (k+1)++E)):=by
  unfold swK;rw [zAV hx,zAV hy];simp only [List.append_assoc,List.cons_append,List.nil_append]
 have l1:(A++D.take k).length=A.length+k:=by simp; omega
 have l2:(A++D.take k).length+1+(B.drop (k+1)++(C++B.take k)).length=A.length+B.length+C.length+k:=by simp; omega
 have:=zF8 (A++D.take k) (B.drop (k+1)++(C++B.take k)) (D.drop (k+1)++E) B[k] (D[k]'(by omega));rw [l2,l1] at this;rw [e0,e1];exact this
def ins (Y:List α) (t:Nat) (x:α):List α:=Y.take t++x::Y.drop t
theorem zL9 (Y:List α) (t:Nat) (x:α):(ins Y t x).length=Y.length+1:=by simp [ins]; omega
theorem zEr (Y:List α) (t:Nat) (x:α):(ins Y t x).Perm (x::Y):=by
 unfold ins;refine List.perm_middle.trans ?_;rw [List.take_append_drop]
theorem zDd (Y:List α) (x:α):ins Y 0 x=x::Y:=by simp [ins]
theorem zDL (Y:List α) (x:α):ins Y Y.length x=Y++[x]:=by simp [ins]
theorem zEs (A Z:List α) {Y:List α} {t:Nat} {x y:α} (hy:Y[t]? = some y):(A++(ins Y t x++Z))[A.length+t]? = some x∧(A++(ins Y t x++Z))[A.length+t+1]? = some y ∧
  ((A++(ins Y t x++Z)).set (A.length+t) y).set (A.length+t+1) x=A++(ins Y (t+1) x++Z)∧((A++(ins Y (t+1) x++Z)).set (A.length+t+1) y).set (A.length+t) x=A++(ins Y t x++Z) ∧
  (A++(ins Y (t+1) x++Z))[A.length+t]? = some y∧(A++(ins Y (t+1) x++Z))[A.length+t+1]? = some x:=by
 have ht:t<Y.length:=(zNj hy).1;have e0:A++(ins Y t x++Z)=(A++Y.take t)++x::([]++y::(Y.drop (t+1)++Z)):=by
  unfold ins;rw [zAJ hy];simp
 have e1:A++(ins Y (t+1) x++Z)=(A++Y.take t)++y::([]++x::(Y.drop (t+1)++Z)):=by
  unfold ins;rw [zAV hy];simp
 have l1:(A++Y.take t).length=A.length+t:=by simp; omega
 have h1:=zF8 (A++Y.take t) [] (Y.drop (t+1)++Z) x y;have h2:=zF8 (A++Y.take t) [] (Y.drop (t+1)++Z) y x;rw [l1] at h1 h2;rw [<-e0,<-e1] at h1 h2;simp only [List.length_nil,Nat.add_zero] at h1 h2;refine ⟨h1.1,h1.2.1,h1.2.2,?_,h2.1,h2.2.1⟩;rw [List.set_comm _ _ (by omega)];exact h2.2.2
variable {le:α→α→Prop}
abbrev Srt (le:α→α→Prop) (L:List α):Prop:=L.Pairwise le
theorem zEV {L:List α} (h:Srt le L) {i j:Nat} {x y:α} (hx:L[i]? = some x) (hy:L[j]? = some y) (hij:i<j):le x y:=by
 have hi:=zNj hx;have hj:=zNj hy;obtain ⟨h1,rfl⟩:=hi;obtain ⟨h2,rfl⟩:=hj;exact List.pairwise_iff_getElem.1 h i j h1 h2 hij
theorem zHF {L:List α} {k:Nat} {a:α} (h:a∈L.take k):∃i,i<k∧L[i]? = some a:=by
 obtain ⟨i,hi⟩:=List.getElem?_of_mem h;have hik:i<k:=by
  rcases Nat.lt_or_ge i k with h | h
  ·exact h
  ·rw [List.getElem?_eq_none (by simp; omega)] at hi; cases hi
 exact ⟨i,hik,by rw [List.getElem?_take,if_pos hik] at hi; exact hi⟩
theorem zHE {L:List α} {k:Nat} {a:α} (h:a∈L.drop k):∃i,k≤i∧L[i]? = some a:=by
 obtain ⟨i,hi⟩:=List.getElem?_of_mem h;rw [List.getElem?_drop] at hi;exact ⟨k+i,by omega,hi⟩
theorem zLF {L:List α} (h:Srt le L) (k:Nat):Srt le (L.take k):=h.sublist (List.take_sublist k L)
theorem zLE {L:List α} (h:Srt le L) (k:Nat):Srt le (L.drop k):=h.sublist (List.drop_sublist k L)
variable (trans:∀a b c,le a b→le b c→le a c)
include trans
theorem zGf {X Y:List α} (hX:Srt le X) (hY:Srt le Y) {i j:Nat} {u v:α} (hu:X[i]? = some u) (hv:Y[j]? = some v) (h:le u v):∀a∈X.take (i+1),∀b∈Y.drop j,le a b:=by
 intro a ha b hb;obtain ⟨p,hp,hpa⟩:=zHF ha;obtain ⟨q,hq,hqb⟩:=zHE hb;have h1:a=u∨le a u:=by
  rcases Nat.lt_or_ge p i with hlt | hge
  ·exact .inr (zEV hX hpa hu hlt)
  ·obtain rfl:p=i:=by omega
   rw [hpa] at hu; cases hu; exact .inl rfl
 have h2:v=b∨le v b:=by
  rcases Nat.lt_or_ge j q with hlt | hge
  ·exact .inr (zEV hY hv hqb hlt)
  ·obtain rfl:j=q:=by omega
   rw [hqb] at hv; cases hv; exact .inl rfl
 have h3:le a v:=by
  rcases h1 with rfl | h1
  ·exact h
  ·exact trans _ _ _ h1 h
 rcases h2 with rfl | h2
 ·exact h3
 ·exact trans _ _ _ h3 h2
theorem zFu {Y:List α} (hY:Srt le Y) {t:Nat} {x:α} (h1:t=0∨∃y,Y[t-1]? = some y∧le y x) (h2:∀y,Y[t]? = some y→le x y):Srt le (ins Y t x):=by
 have a1:∀a∈Y.take t,le a x:=by
  intro a ha;rcases h1 with rfl | ⟨y,hy,hyx⟩
  ·simp at ha
  ·rcases Nat.eq_zero_or_pos t with rfl | ht
   ·simp at ha
   ·obtain ⟨p,hp,hpa⟩:=zHF ha;rcases Nat.lt_or_ge p (t-1) with hlt | hge
    ·exact trans _ _ _ (zEV hY hpa hy hlt) hyx
    ·obtain rfl:p=t-1:=by omega
     rw [hpa] at hy; cases hy; exact hyx
 have a2:∀b∈Y.drop t,le x b:=by
  intro b hb;obtain ⟨q,hq,hqb⟩:=zHE hb;have htl:t<Y.length:=by have:=(zNj hqb).1; omega
  have h3:=h2 Y[t] (by simp [htl]);rcases Nat.lt_or_ge t q with hlt | hge
  ·exact trans _ _ _ h3 (zEV hY (by simp [htl]) hqb hlt)
  ·obtain rfl:t=q:=by omega
   have e:=h2 b hqb;exact e
 unfold ins;refine List.pairwise_append.2 ⟨zLF hY t,List.pairwise_cons.2 ⟨a2,zLE hY t⟩,fun a ha b hb=>?_⟩;rcases List.mem_cons.1 hb with rfl | hb
 ·exact a1 a ha
 ·exact trans _ _ _ (a1 a ha) (a2 b hb)
omit trans in
theorem zAH {X1 X2 Y1 Y2 M1 M2:List α} (hX:Srt le (X1++X2)) (hY:Srt le (Y1++Y2)) (h12:∀a∈X1,∀b∈Y2,le a b) (h21:∀a∈Y1,∀b∈X2,le a b) (p1:M1.Perm (X1++Y1)) (p2:M2.Perm (X2++Y2)) (s1:Srt le M1) (s2:Srt le M2) :
  Srt le (M1++M2)∧(M1++M2).Perm ((X1++X2)++(Y1++Y2)):=by
 obtain ⟨x1,x2,x12⟩:=List.pairwise_append.1 hX;obtain ⟨y1,y2,y12⟩:=List.pairwise_append.1 hY;refine ⟨List.pairwise_append.2 ⟨s1,s2,fun a ha b hb=>?_⟩,?_⟩
 ·rcases List.mem_append.1 (p1.mem_iff.1 ha) with ha | ha <;> rcases List.mem_append.1 (p2.mem_iff.1 hb) with hb | hb
  ·exact x12 a ha b hb
  ·exact h12 a ha b hb
  ·exact h21 a ha b hb
  ·exact y12 a ha b hb
 ·refine (p1.append p2).trans ?_;have e1:(X1++Y1)++(X2++Y2)=X1++((Y1++X2)++Y2):=by simp
  have e2:(X1++X2)++(Y1++Y2)=X1++((X2++Y1)++Y2):=by simp
  rw [e1,e2];exact List.Perm.append_left _ (List.Perm.append_right _ List.perm_append_comm)
omit trans
def BS (le:α→α→Prop) (s:Nat) (L:List α):Prop:=∀k,Srt le ((L.drop (k*s)).take s)
theorem zJX {s:Nat} {L:List α} (h:BS le s L) (hs:L.length≤s):Srt le L:=by
 have:=h 0;rw [Nat.zero_mul,List.drop_zero,List.take_of_length_le hs] at this;exact this
theorem zJW (s:Nat):BS le s ([]:List α):=fun k=>by simp [Srt]
theorem zAU {s q:Nat} {P M:List α} (hP:BS le s P) (hl:P.length=q*s) (hM:Srt le M) (hm:M.length≤s):BS le s (P++M):=by
 intro k;rcases Nat.lt_trichotomy k q with h | h | h
 ·have h1:k*s+s≤q*s:=by
   have:=Nat.mul_le_mul_right s (show k+1≤q from h);rw [Nat.add_mul,Nat.one_mul] at this;exact this
  rw [List.drop_append_of_le_length (by omega),List.take_append_of_le_length (by simp; omega)];exact hP k
 ·subst h;rw [<-hl,List.drop_left,List.take_of_length_le hm];exact hM
 ·have h1:q*s+s≤k*s:=by
   have:=Nat.mul_le_mul_right s (show q+1≤k from h);rw [Nat.add_mul,Nat.one_mul] at this;exact this
  rw [List.drop_of_length_le (by simp; omega)];simp [Srt]
theorem zLg {s:Nat} {L:List α} (h:BS le s L) (q:Nat):BS le s (L.drop (q*s)):=by
 intro k;rw [List.drop_drop,<-Nat.add_mul];exact h _
theorem zH3 {s:Nat} {L:List α} (h:BS le s L):Srt le (L.take s):=by
 have:=h 0;rw [Nat.zero_mul,List.drop_zero] at this;exact this
theorem zGA {s:Nat} {L:List α} (h:BS le s L):Srt le ((L.drop s).take s):=by
 have:=h 1;rw [Nat.one_mul] at this;exact this
end
end Mrg
end Go.Proofs.YtlchafedbnihoaaGreatDoor
