/- Lists that are put in order by exchanges: what merging in place needs. Plain. No condition. -/
import Derived.Test.YtlchafedbnihoaaGreatJGEl
import Derived.Test.YtlchafedbnihoaaGreatJGInV
namespace Go.Proofs.YtlchafedbnihoaaGreat
namespace Mrg
set_option maxRecDepth 20000
section
variable {α:Type}
theorem zG8 (P Q R:List α) (x y:α) :
  (P++x::(Q++y::R))[P.length]? = some x∧(P++x::(Q++y::R))[P.length+1+Q.length]? = some y ∧
  ((P++x::(Q++y::R)).set P.length y).set (P.length+1+Q.length) x=P++y::(Q++x::R):=by
 refine ⟨by simp,?_,?_⟩
 ·rw [List.getElem?_append_right (by omega),show P.length+1+Q.length-P.length=Q.length+1 by omega,List.getElem?_cons_succ,List.getElem?_append_right (zQd _)];simp
 ·rw [List.set_append_right _ _ (zQd _),Nat.sub_self,List.set_cons_zero,List.set_append_right _ _ (by omega),show P.length+1+Q.length-P.length=Q.length+1 by omega,List.set_cons_succ,List.set_append_right _ _ (zQd _),Nat.sub_self,List.set_cons_zero]
def swK (A B C D E:List α) (k:Nat):List α:=A++((D.take k++B.drop k)++(C++((B.take k++D.drop k)++E)))
theorem zNM (A B C D E:List α):swK A B C D E 0=A++(B++(C++(D++E))):=by simp [swK]
theorem zO9 {A B C D E:List α} (h:B.length=D.length):swK A B C D E B.length=A++(D++(C++(B++E))):=by
 unfold swK;rw [List.take_length,List.drop_length,h,List.take_length,List.drop_length];simp
theorem zNL {A B C D E:List α} {k:Nat} (h:B.length=D.length) (hk:k<B.length):∃x y,(swK A B C D E k)[A.length+k]? = some x∧(swK A B C D E k)[A.length+B.length+C.length+k]? = some y ∧
  ((swK A B C D E k).set (A.length+k) y).set (A.length+B.length+C.length+k) x=swK A B C D E (k+1):=by
 have hx:B[k]? = some B[k]:=by simp [hk]
 have hy:D[k]? = some (D[k]'(by omega)):=by simp [show k<D.length by omega]
 refine ⟨B[k],D[k]'(by omega),?_⟩;have e0:swK A B C D E k=(A++D.take k)++B[k]::((B.drop (k+1)++(C++B.take k))++D[k]'(by omega)::(D.drop (k+1)++E)):=by
  unfold swK;rw [zAF hx,zAF hy];simp only [List.append_assoc,List.cons_append,List.nil_append]
 have e1:swK A B C D E (k+1)=(A++D.take k)++D[k]'(by omega)::((B.drop (k+1)++(C++B.take k))++B[k]::(D.drop (k+1)++E)):=by
  unfold swK;rw [zAW hx,zAW hy];simp only [List.append_assoc,List.cons_append,List.nil_append]
 have l1:(A++D.take k).length=A.length+k:=by simp; omega
 have l2:(A++D.take k).length+1+(B.drop (k+1)++(C++B.take k)).length=A.length+B.length+C.length+k:=by simp; omega
 have:=zG8 (A++D.take k) (B.drop (k+1)++(C++B.take k)) (D.drop (k+1)++E) B[k] (D[k]'(by omega));rw [l2,l1] at this;rw [e0,e1];exact this
def ins (Y:List α) (t:Nat) (x:α):List α:=Y.take t++x::Y.drop t
theorem zOK (Y:List α) (t:Nat) (x:α):(ins Y t x).length=Y.length+1:=by simp [ins]; omega
theorem zFu (Y:List α) (t:Nat) (x:α):(ins Y t x).Perm (x::Y):=by
 unfold ins;refine List.perm_middle.trans ?_;rw [List.take_append_drop]
theorem zEY (Y:List α) (x:α):ins Y 0 x=x::Y:=by simp [ins]
theorem zEG (Y:List α) (x:α):ins Y Y.length x=Y++[x]:=by simp [ins]
theorem zFv (A Z:List α) {Y:List α} {t:Nat} {x y:α} (hy:Y[t]? = some y):(A++(ins Y t x++Z))[A.length+t]? = some x∧(A++(ins Y t x++Z))[A.length+t+1]? = some y ∧
  ((A++(ins Y t x++Z)).set (A.length+t) y).set (A.length+t+1) x=A++(ins Y (t+1) x++Z)∧((A++(ins Y (t+1) x++Z)).set (A.length+t+1) y).set (A.length+t) x=A++(ins Y t x++Z) ∧
  (A++(ins Y (t+1) x++Z))[A.length+t]? = some y∧(A++(ins Y (t+1) x++Z))[A.length+t+1]? = some x:=by
 have ht:t<Y.length:=(zQb hy).1;have e0:A++(ins Y t x++Z)=(A++Y.take t)++x::([]++y::(Y.drop (t+1)++Z)):=by
  unfold ins;rw [zAF hy];simp
 have e1:A++(ins Y (t+1) x++Z)=(A++Y.take t)++y::([]++x::(Y.drop (t+1)++Z)):=by
  unfold ins;rw [zAW hy];simp
 have l1:(A++Y.take t).length=A.length+t:=by simp; omega
 have h1:=zG8 (A++Y.take t) [] (Y.drop (t+1)++Z) x y;have h2:=zG8 (A++Y.take t) [] (Y.drop (t+1)++Z) y x;rw [l1] at h1 h2;rw [<-e0,<-e1] at h1 h2;simp only [List.length_nil,Nat.add_zero] at h1 h2;refine ⟨h1.1,h1.2.1,h1.2.2,?_,h2.1,h2.2.1⟩;rw [List.set_comm _ _ (by omega)];exact h2.2.2
variable {le:α→α→Prop}
abbrev Srt (le:α→α→Prop) (L:List α):Prop:=L.Pairwise le
theorem zFc {L:List α} (h:Srt le L) {i j:Nat} {x y:α} (hx:L[i]? = some x) (hy:L[j]? = some y) (hij:i<j):le x y:=by
 have hi:=zQb hx;have hj:=zQb hy;obtain ⟨h1,rfl⟩:=hi;obtain ⟨h2,rfl⟩:=hj;exact List.pairwise_iff_getElem.1 h i j h1 h2 hij
theorem zIb {L:List α} {k:Nat} {a:α} (h:a∈L.take k):∃i,i<k∧L[i]? = some a:=by
 obtain ⟨i,hi⟩:=List.getElem?_of_mem h;have hik:i<k:=by
  rcases Nat.lt_or_ge i k with h | h
  ·exact h
  ·rw [List.getElem?_eq_none (by simp; omega)] at hi; cases hi
 exact ⟨i,hik,by rw [List.getElem?_take,if_pos hik] at hi; exact hi⟩
theorem zIa {L:List α} {k:Nat} {a:α} (h:a∈L.drop k):∃i,k≤i∧L[i]? = some a:=by
 obtain ⟨i,hi⟩:=List.getElem?_of_mem h;rw [List.getElem?_drop] at hi;exact ⟨k+i,by omega,hi⟩
theorem zNJ {L:List α} (h:Srt le L) (k:Nat):Srt le (L.take k):=h.sublist (List.take_sublist k L)
theorem zNI {L:List α} (h:Srt le L) (k:Nat):Srt le (L.drop k):=h.sublist (List.drop_sublist k L)
variable (trans:∀a b c,le a b→le b c→le a c)
include trans
theorem zHv {X Y:List α} (hX:Srt le X) (hY:Srt le Y) {i j:Nat} {u v:α} (hu:X[i]? = some u) (hv:Y[j]? = some v) (h:le u v):∀a∈X.take (i+1),∀b∈Y.drop j,le a b:=by
 intro a ha b hb;obtain ⟨p,hp,hpa⟩:=zIb ha;obtain ⟨q,hq,hqb⟩:=zIa hb;have h1:a=u∨le a u:=by
  rcases Nat.lt_or_ge p i with hlt | hge
  ·exact .inr (zFc hX hpa hu hlt)
  ·obtain rfl:p=i:=by omega
   rw [hpa] at hu; cases hu; exact .inl rfl
 have h2:v=b∨le v b:=by
  rcases Nat.lt_or_ge j q with hlt | hge
  ·exact .inr (zFc hY hv hqb hlt)
  ·obtain rfl:j=q:=by omega
   rw [hqb] at hv; cases hv; exact .inl rfl
 have h3:le a v:=by
  rcases h1 with rfl | h1
  ·exact h
  ·exact trans _ _ _ h1 h
 rcases h2 with rfl | h2
 ·exact h3
 ·exact trans _ _ _ h3 h2
theorem zGs {Y:List α} (hY:Srt le Y) {t:Nat} {x:α} (h1:t=0∨∃y,Y[t-1]? = some y∧le y x) (h2:∀y,Y[t]? = some y→le x y):Srt le (ins Y t x):=by
 have a1:∀a∈Y.take t,le a x:=by
  intro a ha;rcases h1 with rfl | ⟨y,hy,hyx⟩
  ·simp at ha
  ·rcases Nat.eq_zero_or_pos t with rfl | ht
   ·simp at ha
   ·obtain ⟨p,hp,hpa⟩:=zIb ha;rcases Nat.lt_or_ge p (t-1) with hlt | hge
    ·exact trans _ _ _ (zFc hY hpa hy hlt) hyx
    ·obtain rfl:p=t-1:=by omega
     rw [hpa] at hy; cases hy; exact hyx
 have a2:∀b∈Y.drop t,le x b:=by
  intro b hb;obtain ⟨q,hq,hqb⟩:=zIa hb;have htl:t<Y.length:=by have:=(zQb hqb).1; omega
  have h3:=h2 Y[t] (by simp [htl]);rcases Nat.lt_or_ge t q with hlt | hge
  ·exact trans _ _ _ h3 (zFc hY (by simp [htl]) hqb hlt)
  ·obtain rfl:t=q:=by omega
   have e:=h2 b hqb;exact e
 unfold ins;refine List.pairwise_append.2 ⟨zNJ hY t,List.pairwise_cons.2 ⟨a2,zNI hY t⟩,fun a ha b hb=>?_⟩;rcases List.mem_cons.1 hb with rfl | hb
 ·exact a1 a ha
 ·exact trans _ _ _ (a1 a ha) (a2 b hb)
omit trans in
theorem zAL {X1 X2 Y1 Y2 M1 M2:List α} (hX:Srt le (X1++X2)) (hY:Srt le (Y1++Y2)) (h12:∀a∈X1,∀b∈Y2,le a b) (h21:∀a∈Y1,∀b∈X2,le a b) (p1:M1.Perm (X1++Y1)) (p2:M2.Perm (X2++Y2)) (s1:Srt le M1) (s2:Srt le M2) :
  Srt le (M1++M2)∧(M1++M2).Perm ((X1++X2)++(Y1++Y2)):=by
 obtain ⟨x1,x2,x12⟩:=List.pairwise_append.1 hX;obtain ⟨y1,y2,y12⟩:=List.pairwise_append.1 hY;refine ⟨List.pairwise_append.2 ⟨s1,s2,fun a ha b hb=>?_⟩,?_⟩
 ·rcases List.mem_append.1 (p1.mem_iff.1 ha) with ha | ha <;> rcases List.mem_append.1 (p2.mem_iff.1 hb) with hb | hb
  ·exact x12 a ha b hb
  ·exact h12 a ha b hb
  ·exact h21 a ha b hb
  ·exact y12 a ha b hb
 ·refine (p1.append p2).trans ?_;have e1:(X1++Y1)++(X2++Y2)=X1++((Y1++X2)++Y2):=by simp
  have e2:(X1++X2)++(Y1++Y2)=X1++((X2++Y1)++Y2):=by simp
  rw [e1,e2];exact List.Perm.append_left _ (List.Perm.append_right _ List.perm_append_comm)
omit trans
def BS (le:α→α→Prop) (s:Nat) (L:List α):Prop:=∀k,Srt le ((L.drop (k*s)).take s)
theorem zK1 {s:Nat} {L:List α} (h:BS le s L) (hs:L.length≤s):Srt le L:=by
 have:=h 0;rw [Nat.zero_mul,List.drop_zero,List.take_of_length_le hs] at this;exact this
theorem zK0 (s:Nat):BS le s ([]:List α):=fun k=>by simp [Srt]
theorem zD7 {s q:Nat} {P M:List α} (hP:BS le s P) (hl:P.length=q*s) (hM:Srt le M) (hm:M.length≤s):BS le s (P++M):=by
 intro k;rcases Nat.lt_trichotomy k q with h | h | h
 ·have h1:k*s+s≤q*s:=by
   have:=Nat.mul_le_mul_right s (show k+1≤q from h);rw [Nat.add_mul,Nat.one_mul] at this;exact this
  rw [List.drop_append_of_le_length (by omega),List.take_append_of_le_length (by simp; omega)];exact hP k
 ·subst h;rw [<-hl,List.drop_left,List.take_of_length_le hm];exact hM
 ·have h1:q*s+s≤k*s:=by
   have:=Nat.mul_le_mul_right s (show q+1≤k from h);rw [Nat.add_mul,Nat.one_mul] at this;exact this
  rw [List.drop_of_length_le (by simp; omega)];simp [Srt]
theorem zNp {s:Nat} {L:List α} (h:BS le s L) (q:Nat):BS le s (L.drop (q*s)):=by
 intro k;rw [List.drop_drop,<-Nat.add_mul];exact h _
theorem zJY {s:Nat} {L:List α} (h:BS le s L):Srt le (L.take s):=by
 have:=h 0;rw [Nat.zero_mul,List.drop_zero] at this;exact this
theorem zHD {s:Nat} {L:List α} (h:BS le s L):Srt le ((L.drop s).take s):=by
 have:=h 1;rw [Nat.one_mul] at this;exact this
end
end Mrg
end Go.Proofs.YtlchafedbnihoaaGreat
namespace Go.Proofs.YtlchafedbnihoaaGreat
open Go.RowKit
set_option maxRecDepth 20000
set_option maxHeartbeats 8000000
theorem zLz {v:List Int} {l:List (List Int)}:putE v (v::l)=v::l:=by simp [putE]
theorem zOl {v x:List Int} {l:List (List Int)} (h:x≠v) (hg:cmpW v x<0):putE v (x::l)=v::x::l:=by simp [putE,h,hg]
theorem zOk {v x:List Int} {l:List (List Int)} (h:x≠v) (hg:¬cmpW v x<0):putE v (x::l)=x::putE v l:=by simp [putE,h,hg]
structure PutW (v:List Int) (L:List (List Int)) (Z Zo Y:Zl) (k:Nat) (pl:Bool):Prop where
 perm:(Zo++Z.drop k).Perm Y
 txt:Zo.map Prod.snd++(if pl=true then L.drop k else putE v (L.drop k))=putE v L
 len:Zo.length≤k+pl.toNat
section
variable {v:List Int} {L:List (List Int)} {Z Zo Y:Zl} {k:Nat} {pl:Bool} {z:Value × List Int}
theorem PutW.start (_hZ:Z.map Prod.snd=L):PutW v L Z [] Z 0 false:=⟨by simp,by simp,by simp⟩
theorem PutW.at (hZ:Z.map Prod.snd=L) (hz:Z[k]? = some z):L[k]? = some z.2:=by rw [<-hZ,List.getElem?_map,hz]; rfl
theorem PutW.mem (h:PutW v L Z Zo Y k pl) (hz:Z[k]? = some z):z∈Y:=h.perm.mem_iff.1 (List.mem_append_right _ (by rw [zAF hz]; exact List.mem_cons_self ..))
theorem PutW.step (h:PutW v L Z Zo Y k true) (hZ:Z.map Prod.snd=L) (hz:Z[k]? = some z):(Zo++[z]++Z.drop (k+1)).Perm Y∧(Zo++[z]).map Prod.snd++L.drop (k+1)=putE v L:=by
 have h1:=h.perm;have h2:=h.txt;rw [zAF hz] at h1;rw [if_pos rfl,zAF (PutW.at hZ hz)] at h2;exact ⟨by simpa using h1,by simpa using h2⟩
theorem PutW.stepF (h:PutW v L Z Zo Y k false) (hZ:Z.map Prod.snd=L) (hz:Z[k]? = some z) (hne:z.2≠v) (hg:¬cmpW v z.2<0):(Zo++[z]++Z.drop (k+1)).Perm Y∧(Zo++[z]).map Prod.snd++putE v (L.drop (k+1))=putE v L:=by
 have h1:=h.perm;have h2:=h.txt;rw [zAF hz] at h1;rw [if_neg (by simp),zAF (PutW.at hZ hz),zOk hne hg] at h2;exact ⟨by simpa using h1,by simpa using h2⟩
theorem PutW.found (h:PutW v L Z Zo Y k pl) (hZ:Z.map Prod.snd=L) (hz:Z[k]? = some z) (he:z.2=v):PutW v L Z Zo Y k true:=by
 refine ⟨h.perm,?_,by have:=h.len; cases pl <;> simp at * <;> omega⟩;have h2:=h.txt;rw [if_pos rfl];cases pl with
 | true=>rw [if_pos rfl] at h2; exact h2
 | false =>
  rw [if_neg (by simp),zAF (PutW.at hZ hz),he,zLz] at h2;rw [zAF (PutW.at hZ hz),he];exact h2
theorem PutW.ins (h:PutW v L Z Zo Y k false) (hZ:Z.map Prod.snd=L) (hz:Z[k]? = some z) (hne:z.2≠v) (hg:cmpW v z.2<0) (r:Value) :
  (Zo++[(r,v)]++Z.drop k).Perm ((r,v)::Y)∧(Zo++[(r,v)]).map Prod.snd++L.drop k=putE v L:=by
 have h2:=h.txt;rw [if_neg (by simp),zAF (PutW.at hZ hz),zOl hne hg,<-zAF (PutW.at hZ hz)] at h2;refine ⟨?_,by simpa using h2⟩;rw [List.append_assoc];exact List.perm_middle.trans (h.perm.cons _)
theorem zLT {X Y:Zl} {U:List (List Int)} (h1:(X++Z.drop k).Perm Y) (h2:X.map Prod.snd++L.drop k=U) (hZ:Z.map Prod.snd=L) (hz:Z[k]? = some z):(X++[z]++Z.drop (k+1)).Perm Y∧(X++[z]).map Prod.snd++L.drop (k+1)=U:=by
 rw [zAF hz] at h1;rw [zAF (PutW.at hZ hz)] at h2;exact ⟨by simpa using h1,by simpa using h2⟩
theorem PutW.endT (h:PutW v L Z Zo Y k true) (hk:Z.length≤k) (hZ:Z.map Prod.snd=L):Zo.Perm Y∧Zo.map Prod.snd=putE v L:=by
 have h1:=h.perm;have h2:=h.txt;rw [List.drop_eq_nil_of_le hk] at h1;rw [if_pos rfl,List.drop_eq_nil_of_le (show L.length≤k by rw [<-hZ]; simpa using hk)] at h2;exact ⟨by simpa using h1,by simpa using h2⟩
theorem PutW.endF (h:PutW v L Z Zo Y k false) (hk:Z.length≤k) (hZ:Z.map Prod.snd=L) (r:Value):(Zo++[(r,v)]).Perm ((r,v)::Y)∧(Zo++[(r,v)]).map Prod.snd=putE v L:=by
 have h1:=h.perm;have h2:=h.txt;rw [List.drop_eq_nil_of_le hk,List.append_nil] at h1;rw [if_neg (by simp),List.drop_eq_nil_of_le (show L.length≤k by rw [<-hZ]; simpa using hk)] at h2;exact ⟨List.perm_append_comm.trans (h1.cons _),by simpa [putE] using h2⟩
end
def zHt (F:Nat→Prop) (v:List Int) (L:List (List Int)) (w:World) (e:Ending) (w':World):Prop:=∃r,e=.returned r∧HSx F w w' [aF r (putE v L)]
theorem zIt {F S':Nat→Prop} {vl vv:Value} {L:List (List Int)} {v:List Int} {w:World} (h:FII F w vl L) (hF:∀b,F b→b<w.heap.size) (h':RI S' w vv v) (hll:∀x∈L,x.length≤16777216) (hl:L.length≤1048576) (hv:v.length≤16777216) :
  Calls Tryz.prog 95 #[vl,vv] w (zHt F v L w):=by
 have HRES:Hid (zHt F v L w=fun e w'=>∃r,e=.returned r∧HSx F w w' [aF r (putE v L)]):=zQY rfl;obtain ⟨Z,hZ,hs⟩:=(HSx.start (st_F vl L) h hF).openF 0 rfl;have hs:HSx F w w [aV 25 vl (Z.map Prod.fst),aRs Z]:=hs;have hlz:(Z.map Prod.fst).length=Z.length:=by simp
 obtain ⟨av,cv,rfl⟩:=h'.form;generalize hvn:v.length=nv at *;have HVN:=zQY hvn;clear hvn;have HZ:=zQY hZ;have HN:Hid (∀z∈Z,z.2.length≤16777216):=zQY (fun z hz=>hll z.2 (by rw [<-hZ]; exact List.mem_map_of_mem hz));have hzl:Z.length≤1048576:=by
  have:(Z.map Prod.snd).length=L.length:=by rw [hZ]
  simp at this; omega
 have HI0:Hid (PutW v L Z [] Z 0 false):=zQY (PutW.start hZ);have mixed:Tryz.prog.follows .mixedOrders=true:=by kernel_rfl
 obtain ⟨⟨a,cap,rfl⟩,hhead⟩:=hs.formV 0 rfl;rw [hlz] at hs hhead ⊢;generalize hn:Z.length=n at *;have HZL:=zQY hn;have HH:=zQY hhead;clear hn hZ hlz h hF hll hl hhead;go_enter Tryz.func95,Tryz.ntmps95
 go_wp2_with fail
 obtain ⟨w1,hw1⟩:∃w1,w1=w.alloc (.cells #[] 25):=⟨_,rfl⟩;have hs1:=zCm hs hw1;have hs1:HSx F w w1 [aV 25 (.slice a n cap) (Z.map Prod.fst),aRs Z,aV 25 (.slice (some ⟨w.heap.size,0,none⟩) 0 0) (([]:Zl).map Prod.fst)]:=hs1;have HO0:Hid (∀b,(Value.slice (some ⟨w.heap.size,0,none⟩) 0 0).ownBlock=some b→w.heap.size≤b):=zQY (fun b hb=>by simp [Value.ownBlock] at hb; omega);rw [<-hw1];clear hw1 hs;go_wp2_with fail
 go_loopw [5,6,7] (fun oo pp ii wr=>∃(k:Nat) (vo:Value) (pl:Bool) (Zo Y:Zl),vo=oo∧k≤n∧ii=.int .i64 k∧pp=.bool pl∧HSx F w wr [aV 25 (.slice a n cap) (Z.map Prod.fst),aRs Y,aV 25 vo (Zo.map Prod.fst)]∧Hid (PutW v L Z Zo Y k pl)∧Hid (∀b,vo.ownBlock=some b→w.heap.size≤b)) (fun _ _ ii _=>n-(intOf ii).toNat)
 case atStart=>exact ⟨0,_,false,[],Z,rfl,Nat.zero_le _,rfl,rfl,hs1,HI0,HO0⟩
 case round =>
  clear hs1;obtain ⟨k,vo,pl,Zo,Y,rfl,hk,rfl,rfl,hs,HI,HO⟩:=hrel;by_cases hkn:k<n
  ·have i1:(k:Int)<(n:Int):=by omega
   obtain ⟨z,hz⟩:∃z,Z[k]? = some z:=⟨Z[k]'(by rw [HZL.out]; exact hkn),zQZ _⟩;obtain ⟨g,rfl⟩:∃g,a=some ⟨g,0,none⟩:=by
    obtain ⟨g,c9,e⟩:=HH.out (by omega);simp only [Value.slice.injEq] at e;exact ⟨g,e.1⟩
   have hcz:=(hs.cellV 0 rfl (j:=k) (r:=z.1) (by simp [hz])).1;have hrz:=hs.rowS 1 rfl (HI.out.mem hz);have hzn:=HN.out z (zQa hz);have HZK:=zQY hz;obtain ⟨rz,lz⟩:=z;have hrz:RI _ wr rz lz:=hrz;have hcz:wr.cell? ⟨g,k,none⟩=some rz:=hcz;have hzn:lz.length≤16777216:=hzn;obtain ⟨az,cz,rfl⟩:=hrz.form;generalize hln:lz.length=nz at *;have HLN:=zQY hln;clear hln;have hv2:=RI.below h' hs.bl;obtain ⟨cm,hcm⟩:∃cm,cm=cmpW v lz:=⟨_,rfl⟩;have HCM:=zQY hcm;clear hz hcm;go_wp2_with fail
   refine (zBb hv2 hrz (by rw [HVN.out]; exact hv) (by rw [HLN.out]; exact hzn)).mono ?_;rintro e w8 ⟨rfl,m8,rfl⟩;rw [<-HCM.out];have hs:=hs.drewN m8;have hcz:=(hs.cellV 0 rfl (j:=k) (r:=.slice az nz cz) (by simp [HZK.out])).1;have hrz:=hs.rowS 1 rfl (HI.out.mem HZK.out);have hrz:RI _ _ (.slice az nz cz) lz:=hrz;have hv2:=hv2.drewN m8;generalize wr.drewN m8=w9 at *;have HZol:Hid ((Zo.map Prod.fst).length+1≤67108864):=zQY (by have:=HI.out.len; have:pl.toNat≤1:=Bool.toNat_le pl; simp; omega);have honez:(Value.slice az nz cz).oneCell'=true:=oneC hrz;by_cases c0:cm=0
   ·have j2:(cm == 0)=true:=by simp [c0]
    have j1:¬cm<0:=by omega
    have HI2:Hid (PutW v L Z Zo Y k true):=zQY (HI.out.found HZ.out HZK.out (zBO.1 (HCM.out.symm.trans c0)).symm);clear c0;obtain ⟨w5,hw5⟩:∃w5,w5=(w9).alloc (.cells #[.slice az nz cz] 25):=⟨_,rfl⟩;have hs5:=hs.alloc (.cells #[.slice az nz cz] 25);rw [<-hw5] at hs5;have hc5:w5.cell? ⟨(w9).heap.size,0,none⟩=some (.slice az nz cz):=by rw [hw5]; go_simp
    have HW:=zQY hw5;have HST:=zQY (HI2.out.step HZ.out HZK.out);clear hw5 hs;go_wp2_with (at_builtin; go_must (rw [<-HW.out]; refine zAh rfl _ _ rfl rfl hs5 2 rfl HO.out rfl hc5 honez HZol.out ?_))
    intro v6 w6 hs6 hn6;have hs6:HSx F w w6 [aV 25 (.slice (some ⟨g,0,none⟩) n cap) (Z.map Prod.fst),aRs Y,aV 25 v6 ((Zo++[(Value.slice az nz cz,lz)]).map Prod.fst)]:=by
     have e:(Zo++[(Value.slice az nz cz,lz)]).map Prod.fst=Zo.map Prod.fst++[Value.slice az nz cz]:=by simp
     rw [e]; exact hs6
    have HI3:Hid (PutW v L Z (Zo++[(Value.slice az nz cz,lz)]) Y (k+1) true):=zQY ⟨HST.out.1,HST.out.2,by have:=HI2.out.len; simp at *; omega⟩;have HO3:=zQY hn6;clear hs5;go_wp2_with fail
    go_roundw
    case rel=>exact ⟨k+1,v6,true,_,_,rfl,by omega,by go_num,rfl,hs6,HI3,HO3⟩
    case measure=>simp [intOf]; omega
   ·have HNE:Hid (lz≠v):=zQY (fun e=>c0 (HCM.out.trans (zBO.2 e.symm)));have j2:(cm == 0)=false:=by simp [c0]
    clear c0;by_cases c1:cm<0
    ·have HG:Hid (cmpW v lz<0):=zQY (by rw [<-HCM.out]; exact c1);cases pl with
     | true =>
      obtain ⟨w5,hw5⟩:∃w5,w5=(w9).alloc (.cells #[.slice az nz cz] 25):=⟨_,rfl⟩;have hs5:=hs.alloc (.cells #[.slice az nz cz] 25);rw [<-hw5] at hs5;have hc5:w5.cell? ⟨(w9).heap.size,0,none⟩=some (.slice az nz cz):=by rw [hw5]; go_simp
      have HW:=zQY hw5;have HST:=zQY (HI.out.step HZ.out HZK.out);clear hw5 hs;go_wp2_with (at_builtin; go_must (rw [<-HW.out]; refine zAh rfl _ _ rfl rfl hs5 2 rfl HO.out rfl hc5 honez HZol.out ?_))
      intro v6 w6 hs6 hn6;have hs6:HSx F w w6 [aV 25 (.slice (some ⟨g,0,none⟩) n cap) (Z.map Prod.fst),aRs Y,aV 25 v6 ((Zo++[(Value.slice az nz cz,lz)]).map Prod.fst)]:=by
       have e:(Zo++[(Value.slice az nz cz,lz)]).map Prod.fst=Zo.map Prod.fst++[Value.slice az nz cz]:=by simp
       rw [e]; exact hs6
      have HI3:Hid (PutW v L Z (Zo++[(Value.slice az nz cz,lz)]) Y (k+1) true):=zQY ⟨HST.out.1,HST.out.2,by have:=HI.out.len; simp at *; omega⟩;have HO3:=zQY hn6;clear hs5;go_wp2_with fail
      go_roundw
      case rel=>exact ⟨k+1,v6,true,_,_,rfl,by omega,by go_num,rfl,hs6,HI3,HO3⟩
      case measure=>simp [intOf]; omega
     | false =>
      go_wp2_with (at_builtin; go_must (refine zAN (W:=w9) rfl _ _ rfl rfl (FI.fresh0 w9) zA8 rfl (hv2.below zA8) ?_ ?_))
      ·first | (simp; omega) | omega | (have:=HVN.out; simp; omega)
      ·intro vn wn fn bn _;have fn:FI _ wn vn v:=fn;obtain ⟨an,cn,en⟩:=fn.form;rw [HVN.out] at en;subst en;have hsn:=hs.addI bn fn;have hsn:HSx F w wn [aV 25 (.slice (some ⟨g,0,none⟩) n cap) (Z.map Prod.fst),aRs Y,aV 25 vo (Zo.map Prod.fst),aI (.slice an nv cn) v]:=hsn;obtain ⟨wm,hwm⟩:∃wm,wm=wn.alloc (.cells #[.slice an nv cn] 25):=⟨_,rfl⟩;have hsm:=hsn.alloc (.cells #[.slice an nv cn] 25);rw [<-hwm] at hsm;have hcm:wm.cell? ⟨wn.heap.size,0,none⟩=some (.slice an nv cn):=by rw [hwm]; go_simp
       have HWm:=zQY hwm;have honen:(Value.slice an nv cn).oneCell'=true:=oneC fn.reads;clear hwm hsn hs fn bn;go_wp2_with (at_builtin; go_must (rw [<-HWm.out]; refine zAh rfl _ _ rfl rfl hsm 2 rfl HO.out rfl hcm honen HZol.out ?_))
       intro vi wi hsi hni;have hsj:=(hsi.moreS 1 3 (by decide) rfl rfl (List.Perm.refl _)).pick [0,1,2] (by decide);have hs:HSx F w wi [aV 25 (.slice (some ⟨g,0,none⟩) n cap) (Z.map Prod.fst),aRs ((Value.slice an nv cn,v)::Y),aV 25 vi ((Zo++[(Value.slice an nv cn,v)]).map Prod.fst)]:=by
        have e:(Zo++[(Value.slice an nv cn,v)]).map Prod.fst=Zo.map Prod.fst++[Value.slice an nv cn]:=by simp
        rw [e]; exact hsj
       have HI2:=zQY (HI.out.ins HZ.out HZK.out HNE.out HG.out (.slice an nv cn));have hcz:=(hs.cellV 0 rfl (j:=k) (r:=.slice az nz cz) (by simp [HZK.out])).1;have HO2:=zQY hni;have HL2:=zQY HI.out.len;have HZo2:Hid (((Zo++[(Value.slice an nv cn,v)]).map Prod.fst).length+1≤67108864):=zQY (by have:=HI.out.len; simp at *; omega);clear hsi hsj hsm hcm honen;obtain ⟨w5,hw5⟩:∃w5,w5=(wi).alloc (.cells #[.slice az nz cz] 25):=⟨_,rfl⟩;have hs5:=hs.alloc (.cells #[.slice az nz cz] 25);rw [<-hw5] at hs5;have hc5:w5.cell? ⟨(wi).heap.size,0,none⟩=some (.slice az nz cz):=by rw [hw5]; go_simp
       have HW:=zQY hw5;have HST:=zQY (zLT HI2.out.1 HI2.out.2 HZ.out HZK.out);clear hw5 hs;go_wp2_with (at_builtin; go_must (rw [<-HW.out]; refine zAh rfl _ _ rfl rfl hs5 2 rfl HO2.out rfl hc5 honez HZo2.out ?_))
       intro v6 w6 hs6 hn6;have hs6:HSx F w w6 [aV 25 (.slice (some ⟨g,0,none⟩) n cap) (Z.map Prod.fst),aRs ((Value.slice an nv cn,v)::Y),aV 25 v6 (((Zo++[(Value.slice an nv cn,v)])++[(Value.slice az nz cz,lz)]).map Prod.fst)]:=by
        have e:((Zo++[(Value.slice an nv cn,v)])++[(Value.slice az nz cz,lz)]).map Prod.fst=Zo.map Prod.fst++[Value.slice an nv cn,Value.slice az nz cz]:=by simp
        rw [e]; exact hs6
       have HI3:Hid (PutW v L Z ((Zo++[(Value.slice an nv cn,v)])++[(Value.slice az nz cz,lz)]) ((Value.slice an nv cn,v)::Y) (k+1) true):=zQY ⟨HST.out.1,HST.out.2,by have:=HL2.out; simp at *; omega⟩;have HO3:=zQY hn6;clear hs5;go_wp2_with fail
       go_roundw
       case rel=>exact ⟨k+1,v6,true,_,_,rfl,by omega,by go_num,rfl,hs6,HI3,HO3⟩
       case measure=>simp [intOf]; omega
    ·have HG:Hid (¬cmpW v lz<0):=zQY (by rw [<-HCM.out]; exact c1);cases pl with
     | true =>
      obtain ⟨w5,hw5⟩:∃w5,w5=(w9).alloc (.cells #[.slice az nz cz] 25):=⟨_,rfl⟩;have hs5:=hs.alloc (.cells #[.slice az nz cz] 25);rw [<-hw5] at hs5;have hc5:w5.cell? ⟨(w9).heap.size,0,none⟩=some (.slice az nz cz):=by rw [hw5]; go_simp
      have HW:=zQY hw5;have HST:=zQY (HI.out.step HZ.out HZK.out);clear hw5 hs;go_wp2_with (at_builtin; go_must (rw [<-HW.out]; refine zAh rfl _ _ rfl rfl hs5 2 rfl HO.out rfl hc5 honez HZol.out ?_))
      intro v6 w6 hs6 hn6;have hs6:HSx F w w6 [aV 25 (.slice (some ⟨g,0,none⟩) n cap) (Z.map Prod.fst),aRs Y,aV 25 v6 ((Zo++[(Value.slice az nz cz,lz)]).map Prod.fst)]:=by
       have e:(Zo++[(Value.slice az nz cz,lz)]).map Prod.fst=Zo.map Prod.fst++[Value.slice az nz cz]:=by simp
       rw [e]; exact hs6
      have HI3:Hid (PutW v L Z (Zo++[(Value.slice az nz cz,lz)]) Y (k+1) true):=zQY ⟨HST.out.1,HST.out.2,by have:=HI.out.len; simp at *; omega⟩;have HO3:=zQY hn6;clear hs5;go_wp2_with fail
      go_roundw
      case rel=>exact ⟨k+1,v6,true,_,_,rfl,by omega,by go_num,rfl,hs6,HI3,HO3⟩
      case measure=>simp [intOf]; omega
     | false =>
      obtain ⟨w5,hw5⟩:∃w5,w5=(w9).alloc (.cells #[.slice az nz cz] 25):=⟨_,rfl⟩;have hs5:=hs.alloc (.cells #[.slice az nz cz] 25);rw [<-hw5] at hs5;have hc5:w5.cell? ⟨(w9).heap.size,0,none⟩=some (.slice az nz cz):=by rw [hw5]; go_simp
      have HW:=zQY hw5;have HST:=zQY (HI.out.stepF HZ.out HZK.out HNE.out HG.out);clear hw5 hs;go_wp2_with (at_builtin; go_must (rw [<-HW.out]; refine zAh rfl _ _ rfl rfl hs5 2 rfl HO.out rfl hc5 honez HZol.out ?_))
      intro v6 w6 hs6 hn6;have hs6:HSx F w w6 [aV 25 (.slice (some ⟨g,0,none⟩) n cap) (Z.map Prod.fst),aRs Y,aV 25 v6 ((Zo++[(Value.slice az nz cz,lz)]).map Prod.fst)]:=by
       have e:(Zo++[(Value.slice az nz cz,lz)]).map Prod.fst=Zo.map Prod.fst++[Value.slice az nz cz]:=by simp
       rw [e]; exact hs6
      have HI3:Hid (PutW v L Z (Zo++[(Value.slice az nz cz,lz)]) Y (k+1) false):=zQY ⟨HST.out.1,HST.out.2,by have:=HI.out.len; simp at *; omega⟩;have HO3:=zQY hn6;clear hs5;go_wp2_with fail
      go_roundw
      case rel=>exact ⟨k+1,v6,false,_,_,rfl,by omega,by go_num,rfl,hs6,HI3,HO3⟩
      case measure=>simp [intOf]; omega
  ·have i1:¬(k:Int)<(n:Int):=by omega
   have hkz:Z.length≤k:=by rw [HZL.out]; omega
   have HKZ:=zQY hkz;have hv2:=RI.below h' hs.bl;clear hkz;cases pl with
   | true =>
    obtain ⟨e1,e2⟩:=HI.out.endT HKZ.out HZ.out;have hs2:=((((hs.permS 1 rfl e1).pick [2,1] (by decide)).shutF (Z:=Zo) (v:=vo) 0 1 (by decide) rfl rfl).pick [0] (by decide));have hs3:HSx F w wr [aF vo (Zo.map Prod.snd)]:=hs2;rw [e2] at hs3;clear hs hs2 e1 e2;go_wp2_with fail
    go_ret
    rw [HRES.out];exact ⟨_,rfl,hs3⟩
   | false =>
    have HZol:Hid ((Zo.map Prod.fst).length+1≤67108864):=zQY (by have:=HI.out.len; simp at *; omega);go_wp2_with (at_builtin; go_must (refine zAN (W:=wr) rfl _ _ rfl rfl (FI.fresh0 wr) zA8 rfl (hv2.below zA8) ?_ ?_))
    ·first | (simp; omega) | omega | (have:=HVN.out; simp; omega)
    ·intro vn wn fn bn _;have fn:FI _ wn vn v:=fn;obtain ⟨an,cn,en⟩:=fn.form;rw [HVN.out] at en;subst en;have hsn:=hs.addI bn fn;have hsn:HSx F w wn [aV 25 (.slice a n cap) (Z.map Prod.fst),aRs Y,aV 25 vo (Zo.map Prod.fst),aI (.slice an nv cn) v]:=hsn;obtain ⟨wm,hwm⟩:∃wm,wm=wn.alloc (.cells #[.slice an nv cn] 25):=⟨_,rfl⟩;have hsm:=hsn.alloc (.cells #[.slice an nv cn] 25);rw [<-hwm] at hsm;have hcm:wm.cell? ⟨wn.heap.size,0,none⟩=some (.slice an nv cn):=by rw [hwm]; go_simp
     have HWm:=zQY hwm;have honen:(Value.slice an nv cn).oneCell'=true:=oneC fn.reads;clear hwm hsn hs fn bn;go_wp2_with (at_builtin; go_must (rw [<-HWm.out]; refine zAh rfl _ _ rfl rfl hsm 2 rfl HO.out rfl hcm honen HZol.out ?_))
     intro vi wi hsi hni;obtain ⟨e1,e2⟩:=HI.out.endF HKZ.out HZ.out (.slice an nv cn);have hsj:=(hsi.moreS 1 3 (by decide) rfl rfl e1).pick [2,1] (by decide);have hsk:HSx F w wi [aV 25 vi ((Zo++[(Value.slice an nv cn,v)]).map Prod.fst),aRs (Zo++[(Value.slice an nv cn,v)])]:=by
      have e:(Zo++[(Value.slice an nv cn,v)]).map Prod.fst=Zo.map Prod.fst++[Value.slice an nv cn]:=by simp
      rw [e]; exact hsj
     have hs2:=(hsk.shutF 0 1 (by decide) rfl rfl).pick [0] (by decide);have hs3:HSx F w wi [aF vi ((Zo++[(Value.slice an nv cn,v)]).map Prod.snd)]:=hs2;rw [e2] at hs3;clear hsi hsj hsk hs2 e1 e2 hsm;go_wp2_with fail
     go_ret
     rw [HRES.out];exact ⟨_,rfl,hs3⟩
end Go.Proofs.YtlchafedbnihoaaGreat
