/- Memory of the call's own as a list of things that lie apart: reading, writing, adding. No condition. -/
import Derived.Test.YtlgcdacpjcnjgaaGreatDoorJGStar
namespace Go.Proofs.YtlgcdacpjcnjgaaGreatDoor
open Go.RowKit
set_option maxRecDepth 20000
abbrev zAI:=(Nat→Prop)→World→Prop
def zAg (P:zAI):Prop:=∀(F:Nat→Prop) (w w':World),P F w→(∀b,F b→b<w.heap.size→w'.heap[b]? = w.heap[b]?)→P F w'
def HSx (A:Nat→Prop) (w0 w:World) (Ps:List zAI):Prop :=
 Below w0.heap.size w0 w∧∃Fs:Nat→Nat→Prop,
  (∀i P,Ps[i]? = some P→zAg P∧P (Fs i) w∧∀b,Fs i b→(A b∨w0.heap.size≤b)∧b<w.heap.size) ∧
  ∀i j b,i<Ps.length→j<Ps.length→i≠j→Fs i b→¬Fs j b
abbrev NoB:Nat→Prop:=fun _=>False
abbrev HS (w0 w:World) (Ps:List zAI):Prop:=HSx NoB w0 w Ps
abbrev aI (v:Value) (l:List Int):zAI:=fun F w=>FI F w v l
abbrev aB (v:Value) (l:List Bool):zAI:=fun F w=>FBo F w v l
abbrev aR (v:Value) (L:List (List Int)):zAI:=fun F w=>FR F w v L
abbrev aF (v:Value) (L:List (List Int)):zAI:=fun F w=>FII F w v L
abbrev aL (v:Value) (l:List Int):zAI:=fun F w=>RI F w v l
abbrev aLL (v:Value) (L:List (List Int)):zAI:=fun F w=>RII F w v L
abbrev zCI:zAI:=fun _ _=>True
theorem st_I (v:Value) (l:List Int):zAg (aI v l):=fun _ _ _ h k=>FI.keep h fun b hb=>k b (h.2 b hb) (h.1.lt b hb).2
theorem st_B (v:Value) (l:List Bool):zAg (aB v l):=fun _ _ _ h k=>⟨zAk h.1 fun b hb=>k b (h.2 b hb) (h.1.lt b hb).2,h.2⟩
theorem st_R (v:Value) (L:List (List Int)):zAg (aR v L):=fun _ _ _ h k=>FR.keep h k
theorem st_F (v:Value) (L:List (List Int)):zAg (aF v L):=fun _ _ _ h k=>FC.keep h k
theorem st_L (v:Value) (l:List Int):zAg (aL v l):=fun _ _ _ h k=>RI.keep h k
theorem zK0:zAg zCI:=fun _ _ _ _ _=>trivial
section
variable {A:Nat→Prop} {w0 w w':World} {Ps:List zAI} {P P' Q:zAI}
theorem HSx.bl (h:HSx A w0 w Ps):Below w0.heap.size w0 w:=h.1
theorem HSx.nil (h:Below w0.heap.size w0 w):HSx A w0 w []:=⟨h,fun _ _=>False,fun i P h=>by simp at h,fun i j b h=>by simp at h⟩
theorem HSx.get (h:HSx A w0 w Ps) (i:Nat) (hi:Ps[i]? = some P):∃F,P F w∧∀b,F b→(A b∨w0.heap.size≤b)∧b<w.heap.size :=
 let ⟨_,Fs,h1,_⟩:=h
 ⟨Fs i,(h1 i P hi).2.1,(h1 i P hi).2.2⟩
theorem HSx.below (h:HSx A w0 w Ps) (hb:Below w.heap.size w w'):HSx A w0 w' Ps:=by
 obtain ⟨h0,Fs,h1,h2⟩:=h;refine ⟨zAC.step h0 hb,Fs,fun i P hi=>?_,h2⟩;obtain ⟨a,b,c⟩:=h1 i P hi;exact ⟨a,a _ _ _ b (fun k _ hl=>hb.block k hl),fun k hk=>⟨(c k hk).1,Nat.lt_of_lt_of_le (c k hk).2 hb.size⟩⟩
theorem HSx.drew (h:HSx A w0 w Ps):HSx A w0 w.drew Ps:=h.below (Below.refl _ _).drew
theorem HSx.drewN (h:HSx A w0 w Ps) (n:Nat):HSx A w0 (w.drewN n) Ps:=h.below (below_drewN (Below.refl _ _) n)
theorem HSx.alloc (h:HSx A w0 w Ps) (X:Obj):HSx A w0 (w.alloc X) Ps:=h.below ((Below.refl _ _).alloc (zTI _) X)
theorem HSx.upd2 (h:HSx A w0 w Ps) (i j:Nat) (hij:i≠j) (hi:Ps[i]? = some P) (hj:Ps[j]? = some Q) (st:zAg P') (hb:Below w0.heap.size w0 w') (hs:w.heap.size≤w'.heap.size)
  (k:∀F G:Nat→Prop,P F w→Q G w→(∀b,F b→(A b∨w0.heap.size≤b)∧b<w.heap.size)→(∀b,G b→(A b∨w0.heap.size≤b)∧b<w.heap.size)→(∀b,F b→¬G b) →
   ∃F':Nat→Prop,P' F' w'∧(∀b,F' b→F b∨G b∨(w.heap.size≤b∧b<w'.heap.size))∧∀b,b<w.heap.size→¬F b→¬G b→w'.heap[b]? = w.heap[b]?) :
  HSx A w0 w' ((Ps.set i P').set j zCI):=by
 obtain ⟨h0,Fs,h1,h2⟩:=h;obtain ⟨s1,p1,n1⟩:=h1 i P hi;obtain ⟨s2,p2,n2⟩:=h1 j Q hj;have li:i<Ps.length:=(zTG hi).1;have lj:j<Ps.length:=(zTG hj).1;obtain ⟨F',q1,q2,q3⟩:=k (Fs i) (Fs j) p1 p2 n1 n2 (fun b=>h2 i j b li lj hij);have ap:∀m b,m<Ps.length→m≠i→m≠j→F' b→¬Fs m b:=by
  intro m b lm hmi hmj hf hm;rcases q2 b hf with e | e | e
  ·exact h2 i m b li lm (Ne.symm hmi) e hm
  ·exact h2 j m b lj lm (Ne.symm hmj) e hm
  ·have hx:Ps[m]? = some Ps[m]:=zTE lm;have:=((h1 m _ hx).2.2 b hm).2;omega
 refine ⟨hb,fun m b=>if m=i then F' b else if m=j then False else Fs m b,fun m R hm=>?_,fun m k b hm hk hmk=>?_⟩
 ·have lm:m<Ps.length:=by have:=(zTG hm).1; simpa using this
  by_cases e1:m=i
  ·subst e1;rw [List.getElem?_set_ne (Ne.symm hij),List.getElem?_set_self li] at hm;simp only [Option.some.injEq] at hm;subst hm;refine ⟨st,by simpa using q1,fun b hb'=>?_⟩;simp only [if_true] at hb';rcases q2 b hb' with e | e | e
   ·exact ⟨(n1 b e).1,Nat.lt_of_lt_of_le (n1 b e).2 hs⟩
   ·exact ⟨(n2 b e).1,Nat.lt_of_lt_of_le (n2 b e).2 hs⟩
   ·exact ⟨.inr (Nat.le_trans h0.size e.1),e.2⟩
  ·by_cases e2:m=j
   ·subst e2;rw [List.getElem?_set_self (by simpa using lj)] at hm;simp only [Option.some.injEq] at hm;subst hm;refine ⟨zK0,trivial,fun b hb'=>?_⟩;simp only [if_neg e1,if_true] at hb'
   ·rw [List.getElem?_set_ne (Ne.symm e2),List.getElem?_set_ne (Ne.symm e1)] at hm;obtain ⟨s3,p3,n3⟩:=h1 m R hm;simp only [if_neg e1,if_neg e2];refine ⟨s3,s3 _ _ _ p3 (fun b hb' hl=>q3 b hl (fun e=>h2 i m b li lm (Ne.symm e1) e hb') (fun e=>h2 j m b lj lm (Ne.symm e2) e hb')),fun b hb'=>⟨(n3 b hb').1,Nat.lt_of_lt_of_le (n3 b hb').2 hs⟩⟩
 ·simp only [List.length_set] at hm hk;by_cases e1:m=i
  ·subst e1;by_cases e3:k=j
   ·subst e3; simp [Ne.symm hij]
   ·simp only [if_neg (Ne.symm hmk),if_neg e3];exact ap k b hk (Ne.symm hmk) e3
  ·by_cases e2:m=j
   ·subst e2; simp [Ne.symm hij]
   ·simp only [if_neg e1,if_neg e2];by_cases e4:k=i
    ·subst e4;simp only;exact fun hm' hf=>ap m b hm e1 e2 hf hm'
    ·by_cases e5:k=j
     ·subst e5; simp [Ne.symm hij]
     ·simp only [if_neg e4,if_neg e5];exact h2 m k b hm hk hmk
theorem HSx.upd (h:HSx A w0 w Ps) (i:Nat) (hi:Ps[i]? = some P) (st:zAg P') (hb:Below w0.heap.size w0 w') (hs:w.heap.size≤w'.heap.size)
  (k:∀F:Nat→Prop,P F w→(∀b,F b→(A b∨w0.heap.size≤b)∧b<w.heap.size) →
   ∃F':Nat→Prop,P' F' w'∧(∀b,F' b→F b∨(w.heap.size≤b∧b<w'.heap.size))∧∀b,b<w.heap.size→¬F b→w'.heap[b]? = w.heap[b]?) :
  HSx A w0 w' (Ps.set i P'):=by
 obtain ⟨h0,Fs,h1,h2⟩:=h;obtain ⟨s1,p1,n1⟩:=h1 i P hi;have li:i<Ps.length:=(zTG hi).1;obtain ⟨F',q1,q2,q3⟩:=k (Fs i) p1 n1;have ap:∀m b,m<Ps.length→m≠i→F' b→¬Fs m b:=by
  intro m b lm hmi hf hm;rcases q2 b hf with e | e
  ·exact h2 i m b li lm (Ne.symm hmi) e hm
  ·have hx:Ps[m]? = some Ps[m]:=zTE lm;have:=((h1 m _ hx).2.2 b hm).2;omega
 refine ⟨hb,fun m b=>if m=i then F' b else Fs m b,fun m R hm=>?_,fun m k b hm hk hmk=>?_⟩
 ·have lm:m<Ps.length:=by have:=(zTG hm).1; simpa using this
  by_cases e1:m=i
  ·subst e1;rw [List.getElem?_set_self li] at hm;simp only [Option.some.injEq] at hm;subst hm;refine ⟨st,by simpa using q1,fun b hb'=>?_⟩;simp only [if_true] at hb';rcases q2 b hb' with e | e
   ·exact ⟨(n1 b e).1,Nat.lt_of_lt_of_le (n1 b e).2 hs⟩
   ·exact ⟨.inr (Nat.le_trans h0.size e.1),e.2⟩
  ·rw [List.getElem?_set_ne (Ne.symm e1)] at hm;obtain ⟨s3,p3,n3⟩:=h1 m R hm;simp only [if_neg e1];refine ⟨s3,s3 _ _ _ p3 (fun b hb' hl=>q3 b hl (fun e=>h2 i m b li lm (Ne.symm e1) e hb')),fun b hb'=>⟨(n3 b hb').1,Nat.lt_of_lt_of_le (n3 b hb').2 hs⟩⟩
 ·simp only [List.length_set] at hm hk;by_cases e1:m=i
  ·subst e1;simp only [if_neg (Ne.symm hmk)];exact ap k b hk (Ne.symm hmk)
  ·simp only [if_neg e1];by_cases e4:k=i
   ·subst e4;simp only;exact fun hm' hf=>ap m b hm e1 hf hm'
   ·simp only [if_neg e4];exact h2 m k b hm hk hmk
theorem HSx.out (h:HSx A w0 w Ps) (i:Nat) (hi:Ps[i]? = some P):∃F,P F w∧(∀b,F b→(A b∨w0.heap.size≤b)∧b<w.heap.size) ∧
  ∀{w':World} {P':zAI} {F':Nat→Prop},zAg P'→Below w.heap.size w w'→P' F' w'→(∀b,F' b→F b∨New w w' b)→HSx A w0 w' (Ps.set i P'):=by
 obtain ⟨h0,Fs,h1,h2⟩:=h;refine ⟨Fs i,(h1 i P hi).2.1,(h1 i P hi).2.2,fun {w' P' F'} st hb hP hF=>?_⟩;have li:i<Ps.length:=(zTG hi).1;obtain ⟨s1,p1,n1⟩:=h1 i P hi;have ap:∀m b,m<Ps.length→m≠i→F' b→¬Fs m b:=by
  intro m b lm hmi hf hm;rcases hF b hf with e | e
  ·exact h2 i m b li lm (Ne.symm hmi) e hm
  ·have hx:Ps[m]? = some Ps[m]:=zTE lm;have:=((h1 m _ hx).2.2 b hm).2;have:=e.1;omega
 refine ⟨zAC.step h0 hb,fun m b=>if m=i then F' b else Fs m b,fun m R hm=>?_,fun m k b hm hk hmk=>?_⟩
 ·have lm:m<Ps.length:=by have:=(zTG hm).1; simpa using this
  by_cases e1:m=i
  ·subst e1;rw [List.getElem?_set_self li] at hm;simp only [Option.some.injEq] at hm;subst hm;refine ⟨st,by simpa using hP,fun b hb'=>?_⟩;simp only [if_true] at hb';rcases hF b hb' with e | e
   ·exact ⟨(n1 b e).1,Nat.lt_of_lt_of_le (n1 b e).2 hb.size⟩
   ·exact ⟨.inr (Nat.le_trans h0.size e.1),e.2⟩
  ·rw [List.getElem?_set_ne (Ne.symm e1)] at hm;obtain ⟨s3,p3,n3⟩:=h1 m R hm;simp only [if_neg e1];exact ⟨s3,s3 _ _ _ p3 (fun b _ hl=>hb.block b hl),fun b hb'=>⟨(n3 b hb').1,Nat.lt_of_lt_of_le (n3 b hb').2 hb.size⟩⟩
 ·simp only [List.length_set] at hm hk;by_cases e1:m=i
  ·subst e1;simp only [if_neg (Ne.symm hmk)];exact ap k b hk (Ne.symm hmk)
  ·simp only [if_neg e1];by_cases e4:k=i
   ·subst e4;simp only;exact fun hm' hf=>ap m b hm e1 hf hm'
   ·simp only [if_neg e4];exact h2 m k b hm hk hmk
theorem HSx.imp (h:HSx A w0 w Ps) (i:Nat) (hi:Ps[i]? = some P) (st:zAg P') (k:∀F,P F w→P' F w):HSx A w0 w (Ps.set i P') :=
 h.upd i hi st h.bl (zTI _) fun F hF _=>⟨F,k F hF,fun _ hb=>.inl hb,fun _ _ _=>rfl⟩
theorem HSx.add (h:HSx A w0 w Ps) (hb:Below w.heap.size w w') (st:zAg P) {F:Nat→Prop} (hP:P F w') (hF:∀b,F b→New w w' b):HSx A w0 w' (Ps++[P]):=by
 obtain ⟨h0,Fs,h1,h2⟩:=h.below hb;have h3:∀i,i<Ps.length→∀b,Fs i b→True:=fun _ _ _ _=>trivial;obtain ⟨g0,Gs,g1,g2⟩:=h;refine ⟨h0,fun m b=>if m<Ps.length then Gs m b else F b,fun m R hm=>?_,fun m k b hm hk hmk=>?_⟩
 ·by_cases e1:m<Ps.length
  ·rw [List.getElem?_append_left e1] at hm;obtain ⟨s,p,n⟩:=g1 m R hm;simp only [if_pos e1];exact ⟨s,s _ _ _ p (fun b _ hl=>hb.block b hl),fun b hb'=>⟨(n b hb').1,Nat.lt_of_lt_of_le (n b hb').2 hb.size⟩⟩
  ·rw [List.getElem?_append_right (by omega)] at hm;have e2:m-Ps.length=0:=by
    rcases Nat.eq_zero_or_pos (m-Ps.length) with e | e
    ·exact e
    ·rw [List.getElem?_eq_none (by simp; omega)] at hm; cases hm
   rw [e2] at hm;simp only [List.getElem?_cons_zero,Option.some.injEq] at hm;subst hm;simp only [if_neg e1];exact ⟨st,hP,fun b hb'=>⟨.inr (Nat.le_trans g0.size (hF b hb').1),(hF b hb').2⟩⟩
 ·have off:∀m b,m<Ps.length→Gs m b→¬F b:=fun m b lm hg hf=>by
   have hx:Ps[m]? = some Ps[m]:=zTE lm;have:=((g1 m _ hx).2.2 b hg).2;have:=(hF b hf).1;omega
  simp only [List.length_append,List.length_cons,List.length_nil] at hm hk;by_cases e1:m<Ps.length
  ·simp only [if_pos e1];by_cases e2:k<Ps.length
   ·simp only [if_pos e2]; exact g2 m k b e1 e2 hmk
   ·simp only [if_neg e2]; exact off m b e1
  ·simp only [if_neg e1];by_cases e2:k<Ps.length
   ·simp only [if_pos e2]; exact fun hf hg=>off k b e2 hg hf
   ·omega
theorem HSx.addI {v:Value} {l:List Int} (h:HSx A w0 w Ps) (hb:Below w.heap.size w w') (f:FI (New w w') w' v l):HSx A w0 w' (Ps++[aI v l]):=h.add hb (st_I v l) f (fun _ h=>h)
theorem HSx.addB {v:Value} {l:List Bool} (h:HSx A w0 w Ps) (hb:Below w.heap.size w w') (f:FBo (New w w') w' v l):HSx A w0 w' (Ps++[aB v l]):=h.add hb (st_B v l) f (fun _ h=>h)
theorem HSx.addR {v:Value} {L:List (List Int)} (h:HSx A w0 w Ps) (hb:Below w.heap.size w w') (f:FR (New w w') w' v L):HSx A w0 w' (Ps++[aR v L]):=h.add hb (st_R v L) f (fun _ h=>h)
theorem HSx.addF {v:Value} {L:List (List Int)} (h:HSx A w0 w Ps) (hb:Below w.heap.size w w') (f:FII (New w w') w' v L):HSx A w0 w' (Ps++[aF v L]):=h.add hb (st_F v L) f (fun _ h=>h)
theorem HSx.pick (h:HSx A w0 w Ps) (ix:List Nat) (hn:ix.Nodup):HSx A w0 w (ix.map fun i=>(Ps[i]?).getD zCI):=by
 obtain ⟨h0,Fs,h1,h2⟩:=h;refine ⟨h0,fun m b=>∃i,ix[m]? = some i∧i<Ps.length∧Fs i b,fun m R hm=>?_,fun m k b hm hk hmk=>?_⟩
 ·rw [List.getElem?_map] at hm;obtain ⟨i,hi,e⟩:=Option.map_eq_some_iff.1 hm;by_cases li:i<Ps.length
  ·have hx:Ps[i]? = some Ps[i]:=zTE li;rw [hx] at e;simp only [Option.getD_some] at e;subst e;obtain ⟨s,p,n⟩:=h1 i _ hx;have eF:(fun b=>∃i,ix[m]? = some i∧i<Ps.length∧Fs i b)=Fs i:=by
    funext b;apply propext;constructor
    ·rintro ⟨i',a,_,c⟩;rw [hi] at a;simp only [Option.some.injEq] at a;subst a; exact c
    ·exact fun c=>⟨i,hi,li,c⟩
   refine ⟨s,?_,fun b hb=>?_⟩
   ·show Ps[i] (fun b=>∃i,ix[m]? = some i∧i<Ps.length∧Fs i b) w;rw [eF]; exact p
   ·obtain ⟨i',a,_,c⟩:=hb;rw [hi] at a;simp only [Option.some.injEq] at a;subst a;exact n b c
  ·rw [List.getElem?_eq_none (by omega)] at e;simp only [Option.getD_none] at e;subst e;refine ⟨zK0,trivial,fun b hb=>?_⟩;obtain ⟨i',a,c,_⟩:=hb;rw [hi] at a;simp only [Option.some.injEq] at a;subst a;exact absurd c li
 ·rintro ⟨i,a1,a2,a3⟩ ⟨j,c1,c2,c3⟩;have:i≠j:=fun e=>by
   subst e;exact hmk ((List.getElem?_inj (zTG a1).1 hn).1 (by rw [a1,c1]))
  exact h2 i j b a2 c2 this a3 c3
theorem HSx.start {F:Nat→Prop} (st:zAg P) (h:P F w) (hF:∀b,F b→b<w.heap.size):HSx F w w [P] :=
 ⟨Below.refl _ w,fun _=>F,fun i Q hi=>by
  match i,hi with
  | 0,hi=>simp only [List.getElem?_cons_zero,Option.some.injEq] at hi; subst hi; exact ⟨st,h,fun b hb=>⟨.inl hb,hF b hb⟩⟩,fun i j b hi hj hij=>by simp at hi hj; omega⟩
theorem HSx.nw {b:Nat} (h:(NoB b∨w0.heap.size≤b)∧b<w.heap.size):New w0 w b:=⟨h.1.elim (fun h=>h.elim) id,h.2⟩
theorem HS.nil (h:Below w0.heap.size w0 w):HS w0 w []:=HSx.nil h
theorem HS.get (h:HS w0 w Ps) (i:Nat) (hi:Ps[i]? = some P):∃F,P F w∧∀b,F b→New w0 w b:=let ⟨F,h1,h2⟩:=HSx.get h i hi; ⟨F,h1,fun b hb=>HSx.nw (h2 b hb)⟩
theorem HS.I {v:Value} {l:List Int} (h:HS w0 w Ps) (i:Nat) (hi:Ps[i]? = some (aI v l)):FI (New w0 w) w v l:=let ⟨_,h1,h2⟩:=h.get i hi; FI.mono h1 h2
theorem HS.B {v:Value} {l:List Bool} (h:HS w0 w Ps) (i:Nat) (hi:Ps[i]? = some (aB v l)):FBo (New w0 w) w v l:=let ⟨_,h1,h2⟩:=h.get i hi; FBo.mono h1 h2
theorem HS.R {v:Value} {L:List (List Int)} (h:HS w0 w Ps) (i:Nat) (hi:Ps[i]? = some (aR v L)):FR (New w0 w) w v L:=let ⟨_,h1,h2⟩:=h.get i hi; FR.mono h1 h2
theorem HS.F {v:Value} {L:List (List Int)} (h:HS w0 w Ps) (i:Nat) (hi:Ps[i]? = some (aF v L)):FII (New w0 w) w v L:=let ⟨_,h1,h2⟩:=h.get i hi; FC.mono h1 h2
theorem HS.L {v:Value} {l:List Int} (h:HS w0 w Ps) (i:Nat) (hi:Ps[i]? = some (aL v l)):RI (New w0 w) w v l:=let ⟨_,h1,h2⟩:=h.get i hi; RI.mono h1 h2
theorem HS.LL {v:Value} {L:List (List Int)} (h:HS w0 w Ps) (i:Nat) (hi:Ps[i]? = some (aLL v L)):RII (New w0 w) w v L:=let ⟨_,h1,h2⟩:=h.get i hi; RL.mono h1 h2 (fun _ _ h=>RI.mono h h2)
theorem HS.putI {g n:Nat} {cap:Nat} {l:List Int} (h:HS w0 w Ps) (i:Nat) (hi:Ps[i]? = some (aI (.slice (some ⟨g,0,none⟩) n cap) l)) (hn:l.length=n) (j:Nat) (x:Int) :
  HS w0 (w.setCell ⟨g,j,none⟩ (.int .i64 x)) (Ps.set i (aI (.slice (some ⟨g,0,none⟩) n cap) (l.set j x))):=by
 have hz:=zAM w ⟨g,j,none⟩ (.int .i64 x);refine h.upd i hi (st_I _ _) (h.bl.setCell ((h.I i hi).2 g rfl).1 _) (by rw [hz]; exact zTI _) fun F hF _=>⟨F,hF.put hn j x,fun _ hb=>.inl hb,fun b _ hb=>heap_setCell_other w ⟨g,j,none⟩ b _ (fun e=>hb (by have e:b=g:=e; subst e; exact hF.2 b rfl))⟩
theorem HS.putB {g n:Nat} {cap:Nat} {l:List Bool} (h:HS w0 w Ps) (i:Nat) (hi:Ps[i]? = some (aB (.slice (some ⟨g,0,none⟩) n cap) l)) (hn:l.length=n) (j:Nat) (x:Bool) :
  HS w0 (w.setCell ⟨g,j,none⟩ (.bool x)) (Ps.set i (aB (.slice (some ⟨g,0,none⟩) n cap) (l.set j x))):=by
 have hz:=zAM w ⟨g,j,none⟩ (.bool x);refine h.upd i hi (st_B _ _) (h.bl.setCell ((h.B i hi).2 g rfl).1 _) (by rw [hz]; exact zTI _) fun F hF _=>⟨F,hF.put hn j x,fun _ hb=>.inl hb,fun b _ hb=>heap_setCell_other w ⟨g,j,none⟩ b _ (fun e=>hb (by have e:b=g:=e; subst e; exact hF.2 b rfl))⟩
theorem HS.cellI {g n:Nat} {cap:Nat} {l:List Int} (h:HS w0 w Ps) (i:Nat) (hi:Ps[i]? = some (aI (.slice (some ⟨g,0,none⟩) n cap) l)) (hn:l.length=n) {j:Nat} {x:Int} (hx:l[j]? = some x) :
  w.cell? ⟨g,j,none⟩=some (.int .i64 x)∧w.frozen? ⟨g,j,none⟩=false :=
 ⟨(h.I i hi).cell hx (by rw [<-hn]; exact (zTG hx).1),(h.I i hi).froz hn j⟩
theorem HS.cellB {g n:Nat} {cap:Nat} {l:List Bool} (h:HS w0 w Ps) (i:Nat) (hi:Ps[i]? = some (aB (.slice (some ⟨g,0,none⟩) n cap) l)) (hn:l.length=n) {j:Nat} {x:Bool} (hx:l[j]? = some x) :
  w.cell? ⟨g,j,none⟩=some (.bool x)∧w.frozen? ⟨g,j,none⟩=false :=
 ⟨(h.B i hi).cell hn hx,(h.B i hi).froz hn j⟩
theorem HS.headI {v:Value} {l:List Int} (h:HS w0 w Ps) (i:Nat) (hi:Ps[i]? = some (aI v l)) (h0:0<l.length):∃g cap,v=.slice (some ⟨g,0,none⟩) l.length cap∧w0.heap.size≤g∧g<w.heap.size:=by
 obtain ⟨a,cap,rfl⟩:=(h.I i hi).form;obtain ⟨g,rfl,hg,_⟩:=(h.I i hi).head h0;exact ⟨g,cap,rfl,hg.1,hg.2⟩
theorem HS.formI {v:Value} {l:List Int} (h:HS w0 w Ps) (i:Nat) (hi:Ps[i]? = some (aI v l)):∃a cap,v=.slice a l.length cap:=(h.I i hi).form
end
section
variable {w:World} {ops:Array Oper} {rest:List Oper} {o:Oper} {a:Act} {Q:Exit→Act→World→Prop}
theorem zDP {K:Act→World→Prop} (s x:Operand) {t e:TypeId} {z:Value} {size bytes:Nat} (ht:Tryz.prog.underlying t=some (.slice e)) (hinfo:(Tryz.prog.info? e).map (fun i=>(i.zero,i.size,i.bytes))=some (some z,size,bytes))
  (hzs:z.cells.size=size) (hsz:0<size)
  (ho:o.op=.call { callee:=.builtin .append,args:=#[s,x],argTypes:=#[t,t] })
  {base:Nat} {v:Value} {n:Nat} {xs news:List Value} (hs:a.eval s=v) (hown:w.ownsRow base e size v n xs) (hbase:base≤w.heap.size)
  {ad:Addr} {m c:Nat} (hx:a.eval x=.slice (some ad) m c) (hl:news.length=m*size) (hnews:∀j u,news[j]? = some u→w.cell? (ad.add j)=some u) (h1:∀u∈news,u.oneCell'=true)
  (hlen:n+m≤67108864) (hby:bytes≤1024)
  (h:∀v' w',w'.ownsRow base e size v' (n+m) (xs++news)→w.grownBy w' v.ownBlock→(∀b,v'.ownBlock=some b→v.ownBlock=some b∨w.heap.size≤b)→K (a.put o.dst v') w'):o.wp Tryz.prog a w K Q:=by
 obtain ⟨i0,hi,hz0,hz1,hz2⟩:=info_parts hinfo;have hb2:(n+m)*bytes≤140737488355328:=by
  have h1:(n+m)*bytes≤67108864*bytes:=Nat.mul_le_mul_right _ hlen;have h2:67108864*bytes≤67108864*1024:=Nat.mul_le_mul_left _ hby;omega
 obtain ⟨v',w',hr,h2,h3,_⟩:=run_append_own (P:=Tryz.prog) w base t o.type e i0 z size bytes ht hi hz0 hz1 hz2 hzs hsz v n xs hown ad m c news hl hnews h1 (by unfold maxLen; omega) hb2 hbase;have h4:=zDd (P:=Tryz.prog) w base t o.type e i0 z size bytes ht hi hz0 hz1 hz2 hzs hsz v n xs hown ad m c news hl hnews h1 (by unfold maxLen; omega) hb2 hr;unfold Oper.wp execOp;simp only [ho,resolve,invoke,builtin,Sem.run_bind,Sem.run_pure,Result.andThen_ok,List.map_toArray,List.map_cons,List.map_nil,hs,hx,hr];exact h v' w' h2 h3 h4
theorem zBA {W w w':World} {v:Value} (hb:Below W.heap.size W w) (hg:w.grownBy w' v.ownBlock) (hv:∀b,v.ownBlock=some b→W.heap.size≤b):Below W.heap.size W w':=hb.grown hg hb.size hv
theorem zNo {W:World} {K:Act→World→Prop} {Ps:List zAI} (s x:Operand)
  (ho:o.op=.call { callee:=.builtin .append,args:=#[s,x],argTypes:=#[29,29] })
  {v:Value} {l:List Int} {y:Int} (hs:a.eval s=v) (h:HS W w Ps) (i:Nat) (hi:Ps[i]? = some (aI v l))
  {H:Nat} (hx:a.eval x=.slice (some ⟨H,0,none⟩) 1 1) (hc:w.cell? ⟨H,0,none⟩=some (.int .i64 y)) (hlen:l.length+1≤67108864)
  (k:∀v' w',HS W w' (Ps.set i (aI v' (l++[y])))→K (a.put o.dst v') w'):o.wp Tryz.prog a w K Q:=by
 have hf:=h.I i hi;refine zDP s x Tryz.underlying29 zA8 rfl (by decide) ho (base:=0) (news:=[.int .i64 y]) hs hf.1 (Nat.zero_le _) hx rfl ?_ (by intro u hu; simp at hu; subst hu; rfl) (by omega) (by decide) ?_
 ·intro j u hj
  match j,hj with
  | 0,hj=>simp at hj; subst hj; simpa [Addr.add] using hc
 ·intro v' w' h2 h3 h4;refine k v' w' (h.upd i hi (st_I _ _) (zBA h.bl h3 (fun b hb=>(hf.2 b hb).1)) h3.size fun F hF _=>⟨fun b=>v'.ownBlock=some b,⟨?_,fun b hb=>hb⟩,fun b hb=>?_,fun b hl hb=>h3.block b hl (fun e=>hb (hF.2 b e.symm))⟩)
  ·rw [List.length_append,List.map_append]; exact h2
  ·rcases h4 b hb with e | e
   ·exact .inl (hF.2 b e)
   ·exact .inr ⟨e,(h2.lt b hb).2⟩
theorem zAd {W:World} {Ps:List zAI} (hgd:o.guard=none) (s x:Operand)
  (ho:o.op=.call { callee:=.builtin .append,args:=#[s,x],argTypes:=#[29,29] })
  {v:Value} {l:List Int} {y:Int} (hs:a.eval s=v) (h:HS W w Ps) (i:Nat) (hi:Ps[i]? = some (aI v l))
  {H:Nat} (hx:a.eval x=.slice (some ⟨H,0,none⟩) 1 1) (hc:w.cell? ⟨H,0,none⟩=some (.int .i64 y)) (hlen:l.length+1≤67108864)
  (k:∀v' w',HS W w' (Ps.set i (aI v' (l++[y])))→wpList Tryz.prog ops Q rest (a.put o.dst v') w'):wpList Tryz.prog ops Q (o::rest) a w :=
 wpList_plain hgd fun _ hK=>zNo s x ho hs h i hi hx hc hlen fun v' w' h2=>hK _ _ (k v' w' h2)
theorem zPb {W:World} {K:Act→World→Prop} {E:Prop} {Ps:List zAI} (hgd:o.guard=none) (s x:Operand)
  (ho:o.op=.call { callee:=.builtin .append,args:=#[s,x],argTypes:=#[29,29] })
  {v:Value} {l:List Int} {y:Int} (hs:a.eval s=v) (h:HS W w Ps) (i:Nat) (hi:Ps[i]? = some (aI v l))
  {H:Nat} (hx:a.eval x=.slice (some ⟨H,0,none⟩) 1 1) (hc:w.cell? ⟨H,0,none⟩=some (.int .i64 y)) (hlen:l.length+1≤67108864)
  (k:∀v' w',HS W w' (Ps.set i (aI v' (l++[y])))→K (a.put o.dst v') w'):if Region.wanted o (yielded ops a.tmps)=true then Oper.wp Tryz.prog o a w K Q else E:=by
 have hw:Region.wanted o (yielded ops a.tmps)=true:=by simp [Region.wanted,hgd]
 rw [if_pos hw];exact zNo s x ho hs h i hi hx hc hlen k
end
end Go.Proofs.YtlgcdacpjcnjgaaGreatDoor
namespace Go.Proofs.YtlgcdacpjcnjgaaGreatDoor
open Go.RowKit
set_option maxRecDepth 20000
abbrev Zl:=List (Value × List Int)
def zFO (r r':Value):Prop:=∀b,r.ownBlock=some b→r'.ownBlock≠some b
theorem zFO.symm {r r':Value} (h:zFO r r'):zFO r' r:=fun b hb hb'=>h b hb' hb
abbrev aV (e:TypeId) (v:Value) (vs:List Value):zAI:=fun F w=>w.ownsRow 0 e 1 v vs.length vs∧∀b,v.ownBlock=some b→F b
abbrev aRr (Z:Zl):zAI:=fun F w=>∀x∈Z,RI F w x.1 x.2
abbrev aRs (Z:Zl):zAI:=fun F w=>(∀x∈Z,FI F w x.1 x.2)∧(Z.map Prod.fst).Pairwise zFO
theorem st_V (e:TypeId) (v:Value) (vs:List Value):zAg (aV e v vs):=fun _ _ _ h k=>⟨zAk h.1 fun b hb=>k b (h.2 b hb) (h.1.lt b hb).2,h.2⟩
theorem zIL (Z:Zl):zAg (aRr Z):=fun _ _ _ h k x hx=>RI.keep (h x hx) k
theorem zA7 (Z:Zl):zAg (aRs Z):=fun _ _ _ h k=>⟨fun x hx=>FI.keep (h.1 x hx) fun b hb=>k b ((h.1 x hx).2 b hb) ((h.1 x hx).1.lt b hb).2,h.2⟩
theorem zRC {w:World} {B B':Nat} {e e':TypeId} {s n:Nat} {v:Value} {xs ys:List Value} (h:w.ownsRow B e s v n xs) (k:w.ownsRow B' e' s v n ys):xs=ys:=by
 rcases h.2 with ⟨hv,hn⟩ | ⟨g,cap,cur,hv,_,hg,_,_,_,ht⟩
 ·have z1:xs=[]:=List.eq_nil_of_length_eq_zero (by rw [h.1,hn,Nat.zero_mul]);have z2:ys=[]:=List.eq_nil_of_length_eq_zero (by rw [k.1,hn,Nat.zero_mul]);rw [z1,z2]
 ·rcases k.2 with ⟨hv',hn'⟩ | ⟨g',cap',cur',hv',_,hg',_,_,_,ht'⟩
  ·rw [hv'] at hv; cases hv
  ·rw [hv'] at hv;simp only [Value.slice.injEq,Option.some.injEq,Addr.mk.injEq,and_true,true_and] at hv;obtain ⟨e1,e2⟩:=hv;subst e1;rw [hg'] at hg;simp only [Option.some.injEq,Obj.cells.injEq,and_true] at hg;rw [<-ht,<-ht',hg.1]
section
variable {A:Nat→Prop} {w0 w w':World} {Ps:List zAI} {P P' Q P1 P2:zAI}
theorem HSx.split (h:HSx A w0 w Ps) (i:Nat) (hi:Ps[i]? = some P) (s1:zAg P1) (s2:zAg P2)
  (k:∀F:Nat→Prop,P F w→∃F1 F2:Nat→Prop,P1 F1 w∧P2 F2 w∧(∀b,F1 b→F b)∧(∀b,F2 b→F b)∧∀b,F1 b→¬F2 b):HSx A w0 w (Ps.set i P1++[P2]):=by
 obtain ⟨h0,Fs,h1,h2⟩:=h;obtain ⟨st,p,n⟩:=h1 i P hi;have li:i<Ps.length:=(zTG hi).1;obtain ⟨F1,F2,q1,q2,q3,q4,q5⟩:=k (Fs i) p;refine ⟨h0,fun m b=>if m=i then F1 b else if m<Ps.length then Fs m b else F2 b,fun m R hm=>?_,fun m k b hm hk hmk=>?_⟩
 ·by_cases e1:m=i
  ·subst e1;rw [List.getElem?_append_left (by simpa using li),List.getElem?_set_self li] at hm;simp only [Option.some.injEq] at hm;subst hm;exact ⟨s1,by simpa using q1,fun b hb=>n b (q3 b (by simpa using hb))⟩
  ·by_cases e2:m<Ps.length
   ·rw [List.getElem?_append_left (by simpa using e2),List.getElem?_set_ne (Ne.symm e1)] at hm;simp only [if_neg e1,if_pos e2];exact h1 m R hm
   ·rw [List.getElem?_append_right (by simp; omega),List.length_set] at hm;have e3:m-Ps.length=0:=by
     rcases Nat.eq_zero_or_pos (m-Ps.length) with e | e
     ·exact e
     ·rw [List.getElem?_eq_none (by simp; omega)] at hm; cases hm
    rw [e3] at hm;simp only [List.getElem?_cons_zero,Option.some.injEq] at hm;subst hm;simp only [if_neg e1,if_neg e2];exact ⟨s2,q2,fun b hb=>n b (q4 b hb)⟩
 ·simp only [List.length_append,List.length_set,List.length_cons,List.length_nil] at hm hk;by_cases e1:m=i
  ·subst e1;simp only [if_true,if_neg (Ne.symm hmk)];by_cases e2:k<Ps.length
   ·simp only [if_pos e2];exact fun hf hg=>h2 m k b li e2 hmk (q3 b hf) hg
   ·simp only [if_neg e2];exact q5 b
  ·simp only [if_neg e1];by_cases e4:k=i
   ·subst e4;simp only [if_true];by_cases e2:m<Ps.length
    ·simp only [if_pos e2];exact fun hf hg=>h2 k m b li e2 (Ne.symm hmk) (q3 b hg) hf
    ·simp only [if_neg e2];exact fun hf hg=>q5 b hg hf
   ·simp only [if_neg e4];by_cases e2:m<Ps.length
    ·simp only [if_pos e2];by_cases e3:k<Ps.length
     ·simp only [if_pos e3]; exact h2 m k b e2 e3 hmk
     ·simp only [if_neg e3];exact fun hf hg=>h2 m i b e2 li e1 hf (q4 b hg)
    ·simp only [if_neg e2];by_cases e3:k<Ps.length
     ·simp only [if_pos e3];exact fun hf hg=>h2 k i b e3 li e4 hg (q4 b hf)
     ·omega
theorem HSx.join (h:HSx A w0 w Ps) (i j:Nat) (hij:i≠j) (hi:Ps[i]? = some P) (hj:Ps[j]? = some Q) (st:zAg P')
  (k:∀F G:Nat→Prop,P F w→Q G w→(∀b,F b→¬G b)→P' (fun b=>F b∨G b) w):HSx A w0 w ((Ps.set i P').set j zCI) :=
 h.upd2 i j hij hi hj st h.bl (zTI _) fun F G hF hG _ _ hd=>⟨_,k F G hF hG hd,fun _b hb=>hb.elim .inl (fun h=>.inr (.inl h)),fun _ _ _ _=>rfl⟩
theorem HSx.lend (h:HSx A w0 w Ps) (i:Nat) (hi:Ps[i]? = some P):∃F:Nat→Prop,P F w∧(∀b,F b→b<w.heap.size)∧Hid (∀(w':World) (P':zAI),HSx F w w' [P']→HSx A w0 w' (Ps.set i P')):=by
 obtain ⟨F,hF,hn,hback⟩:=h.out i hi;refine ⟨F,hF,fun b hb=>(hn b hb).2,zTD fun w' P' h6=>?_⟩;obtain ⟨h0,Fs,h1,_⟩:=h6;obtain ⟨s,p,n6⟩:=h1 0 P' rfl;exact hback s h0 p fun b hb=>by
  obtain ⟨q1,q2⟩:=n6 b hb;rcases q1 with q1 | q1
  ·exact .inl q1
  ·exact .inr ⟨q1,q2⟩
theorem zJe {b:Nat} {e e':TypeId} (he:e≠e') (h:∃cur,w.heap[b]? = some (.cells cur e (0,0))) (h':Tag (some e') w b):False:=by
 obtain ⟨c1,t1⟩:=h;obtain ⟨c2,f2,t2⟩:=h';rw [t1] at t2;simp only [Option.some.injEq,Obj.cells.injEq] at t2;exact he t2.2.1
theorem zGz:29≠3:=by decide
theorem RI.off {F:Nat→Prop} {r:Value} {l:List Int} {B:Nat} (h:RI F w r l) (hB:∃cur,w.heap[B]? = some (.cells cur 29 (0,0))):RI (fun b=>F b∧b≠B) w r l:=by
 obtain ⟨a,cap,hv,hc,h⟩:=h;refine ⟨a,cap,hv,hc,?_⟩;rcases h with h | ⟨b,o,ha,hs,ht,h⟩
 ·exact .inl h
 ·exact .inr ⟨b,o,ha,⟨hs,fun e=>zJe zGz hB (e ▸ ht)⟩,ht,h⟩
theorem FI.off {F:Nat→Prop} {r:Value} {l:List Int} {B:Nat} (h:FI F w r l) (hB:∃cur,w.heap[B]? = some (.cells cur 29 (0,0))):FI (fun b=>F b∧b≠B) w r l :=
 ⟨h.1,fun b hb=>⟨h.2 b hb,fun e=>by
  obtain ⟨c2,t2⟩:=zA1 h.1 hb;exact zJe zGz hB (e ▸ ⟨c2,(0,0),t2⟩)⟩⟩
theorem zSs {vs:List Value} {L:List (List Int)} (_hl:vs.length=L.length) {x:Value × List Int} (hx:x∈vs.zip L):∃j:Nat,vs[j]? = some x.1∧L[j]? = some x.2:=by
 obtain ⟨j,hj⟩:=List.getElem?_of_mem hx;rw [List.getElem?_zip_eq_some] at hj;exact ⟨j,hj⟩
theorem zGP {L:List (List Int)} {j:Nat} {l:List Int} (h:L[j]? = some l):(zDz L)[j]? = some (.inl l):=by simp [zDz,h]
theorem HSx.openF {v:Value} {L:List (List Int)} (h:HSx A w0 w Ps) (i:Nat) (hi:Ps[i]? = some (aF v L)) :
  ∃Z:Zl,Z.map Prod.snd=L∧HSx A w0 w (Ps.set i (aV 29 v (Z.map Prod.fst))++[aRs Z]):=by
 obtain ⟨F0,⟨vs,h1,h2,h3,h4,h5⟩,_⟩:=HSx.get h i hi;have hl:vs.length=L.length:=by simpa [zDz] using h2
 have hz:(vs.zip L).map Prod.fst=vs:=List.map_fst_zip (by omega);refine ⟨vs.zip L,List.map_snd_zip (by omega),?_⟩;rw [hz];refine h.split i hi (st_V _ _ _) (zA7 _) fun F hF=>?_;obtain ⟨us,o1,o2,o3,o4,o5⟩:=hF;have e1:us=vs:=zRC o1 h1;subst e1;refine ⟨fun b=>v.ownBlock=some b,fun b=>F b∧v.ownBlock≠some b,⟨by rw [hl]; exact o1,fun b hb=>hb⟩,⟨fun x hx=>?_,?_⟩,fun b hb=>o3 b hb,fun b hb=>hb.1,fun b hb hb'=>hb'.2 hb⟩
 ·obtain ⟨j,j1,j2⟩:=zSs hl hx;have hf:FI F w x.1 x.2:=o4 j x.1 _ j1 (zGP j2);refine ⟨hf.1,fun b hb=>⟨hf.2 b hb,fun e=>?_⟩⟩;obtain ⟨c2,t2⟩:=zA1 hf.1 hb;exact zJe zGz (zA1 o1 e) ⟨c2,(0,0),t2⟩
 ·rw [hz,List.pairwise_iff_getElem];intro m k hm hk hmk b hb hb';exact o5 m k _ _ b (by omega) (zTE hm) (zTE hk) hb hb'
theorem HSx.shutF {v:Value} {Z:Zl} (h:HSx A w0 w Ps) (i j:Nat) (hij:i≠j) (hi:Ps[i]? = some (aV 29 v (Z.map Prod.fst))) (hj:Ps[j]? = some (aRs Z)) :
  HSx A w0 w ((Ps.set i (aF v (Z.map Prod.snd))).set j zCI):=by
 refine h.join i j hij hi hj (st_F _ _) fun F G hF hG hd=>⟨Z.map Prod.fst,by have:=hF.1; simpa using this,by simp [zDz],fun b hb=>.inl (hF.2 b hb),fun m r x hr hx=>?_,fun m k r r' b hmk hr hr' hb=>?_⟩
 ·rw [List.getElem?_map] at hr;obtain ⟨z,hz,rfl⟩:=Option.map_eq_some_iff.1 hr;have e:x=.inl z.2:=by
   have:(zDz (Z.map Prod.snd))[m]? = some (.inl z.2):=zGP (by simp [hz]);rw [this] at hx; simpa using hx.symm
  subst e;exact FI.mono (hG.1 z (zTF hz)) (fun b hb=>.inr hb)
 ·have hp:=List.pairwise_iff_getElem.1 hG.2;obtain ⟨lm,em⟩:=zTG hr;obtain ⟨lk,ek⟩:=zTG hr';rcases Nat.lt_or_gt_of_ne hmk with h1 | h1
  ·exact (em ▸ ek ▸ hp m k lm lk h1) b hb
  ·exact (zFO.symm (em ▸ ek ▸ hp k m lk lm h1)) b hb
theorem HSx.shutR {v:Value} {Z:Zl} (h:HSx A w0 w Ps) (i j:Nat) (hij:i≠j) (hi:Ps[i]? = some (aV 29 v (Z.map Prod.fst))) (hj:Ps[j]? = some (aRr Z)) :
  HSx A w0 w ((Ps.set i (aR v (Z.map Prod.snd))).set j zCI):=by
 refine h.join i j hij hi hj (st_R _ _) fun F G hF hG hd=>⟨Z.map Prod.fst,by have:=hF.1; simpa using this,by simp,fun b hb=>.inl (hF.2 b hb),fun m r x hr hx=>?_⟩;rw [List.getElem?_map] at hr hx;obtain ⟨z,hz,rfl⟩:=Option.map_eq_some_iff.1 hr;rw [hz] at hx;simp only [Option.map_some,Option.some.injEq] at hx;subst hx;exact RI.mono (hG z (zTF hz)) (fun b hb=>.inr hb)
theorem HSx.permS {Z Z':Zl} (h:HSx A w0 w Ps) (j:Nat) (hj:Ps[j]? = some (aRs Z)) (hp:Z'.Perm Z):HSx A w0 w (Ps.set j (aRs Z')) :=
 h.imp j hj (zA7 _) fun _F hF=>⟨fun x hx=>hF.1 x (hp.mem_iff.1 hx),(hp.map Prod.fst).symm.pairwise hF.2 (fun h=>h.symm)⟩
theorem HSx.moreS {Z Z':Zl} {r:Value} {l:List Int} (h:HSx A w0 w Ps) (j k:Nat) (hjk:j≠k) (hj:Ps[j]? = some (aRs Z)) (hk:Ps[k]? = some (aI r l)) (hp:Z'.Perm ((r,l)::Z)) :
  HSx A w0 w ((Ps.set j (aRs Z')).set k zCI):=by
 refine h.join j k hjk hj hk (zA7 _) fun F G hF hG hd=>⟨fun x hx=>?_,?_⟩
 ·rcases List.mem_cons.1 (hp.mem_iff.1 hx) with rfl | hx
  ·exact FI.mono hG (fun b hb=>.inr hb)
  ·exact FI.mono (hF.1 x hx) (fun b hb=>.inl hb)
 ·refine (hp.map Prod.fst).symm.pairwise ?_ (fun h=>h.symm);rw [List.map_cons,List.pairwise_cons];refine ⟨fun r' hr' b hb hb'=>?_,hF.2⟩;obtain ⟨z,hz,rfl⟩:=List.mem_map.1 hr';exact hd b ((hF.1 z hz).2 b hb') (hG.2 b hb)
theorem HSx.moreR {Z Z':Zl} {r:Value} {l:List Int} (h:HSx A w0 w Ps) (j k:Nat) (hjk:j≠k) (hj:Ps[j]? = some (aRr Z)) (hk:Ps[k]? = some (aL r l)) (hp:Z'.Perm ((r,l)::Z)) :
  HSx A w0 w ((Ps.set j (aRr Z')).set k zCI):=by
 refine h.join j k hjk hj hk (zIL _) fun F G hF hG hd x hx=>?_;rcases List.mem_cons.1 (hp.mem_iff.1 hx) with rfl | hx
 ·exact RI.mono hG (fun b hb=>.inr hb)
 ·exact RI.mono (hF x hx) (fun b hb=>.inl hb)
theorem HSx.sToR {Z:Zl} (h:HSx A w0 w Ps) (j:Nat) (hj:Ps[j]? = some (aRs Z)):HSx A w0 w (Ps.set j (aRr Z)):=h.imp j hj (zIL _) fun _F hF x hx=>(hF.1 x hx).reads
theorem HSx.cellV {e:TypeId} {g n cap:Nat} {vs:List Value} (h:HSx A w0 w Ps) (i:Nat) (hi:Ps[i]? = some (aV e (.slice (some ⟨g,0,none⟩) n cap) vs)) {j:Nat} {r:Value} (hr:vs[j]? = some r) :
  w.cell? ⟨g,j,none⟩=some r∧w.frozen? ⟨g,j,none⟩=false:=by
 obtain ⟨F,hF,_⟩:=HSx.get h i hi;have hj:=(zTG hr).1;have hn:n=vs.length:=by
  rcases hF.1.2 with ⟨hv,_⟩ | ⟨_,_,_,hv,_⟩ <;> simp at hv; exact hv.2.1
 subst hn;exact ⟨by rw [hF.1.cellAt j (by omega)]; exact hr,hF.1.frozenAt j⟩
theorem HSx.formV {e:TypeId} {v:Value} {vs:List Value} (h:HSx A w0 w Ps) (i:Nat) (hi:Ps[i]? = some (aV e v vs)):(∃a cap,v=.slice a vs.length cap)∧(0<vs.length→∃g cap,v=.slice (some ⟨g,0,none⟩) vs.length cap):=by
 obtain ⟨F,hF,_⟩:=HSx.get h i hi;rcases hF.1.2 with ⟨rfl,h0⟩ | ⟨g,cap,cur,rfl,_⟩
 ·exact ⟨⟨_,_,by rw [h0]⟩,fun h=>by omega⟩
 ·exact ⟨⟨_,_,rfl⟩,fun _=>⟨g,cap,rfl⟩⟩
theorem HSx.rowR {Z:Zl} {x:Value × List Int} (h:HSx A w0 w Ps) (j:Nat) (hj:Ps[j]? = some (aRr Z)) (hx:x∈Z):RI (fun b=>(A b∨w0.heap.size≤b)∧b<w.heap.size) w x.1 x.2:=by
 obtain ⟨F,hF,hn⟩:=HSx.get h j hj;exact RI.mono (hF x hx) hn
theorem HSx.rowS {Z:Zl} {x:Value × List Int} (h:HSx A w0 w Ps) (j:Nat) (hj:Ps[j]? = some (aRs Z)) (hx:x∈Z):RI (fun b=>(A b∨w0.heap.size≤b)∧b<w.heap.size) w x.1 x.2:=by
 obtain ⟨F,hF,hn⟩:=HSx.get h j hj;exact RI.mono (hF.1 x hx).reads hn
end
section
variable {w:World} {ops:Array Oper} {rest:List Oper} {o:Oper} {a:Act} {Q:Exit→Act→World→Prop}
theorem zJk {A:Nat→Prop} {W:World} {K:Act→World→Prop} {Ps:List zAI} (s x:Operand) {t e:TypeId} {z:Value} {bytes:Nat} (ht:Tryz.prog.underlying t=some (.slice e))
  (hinfo:(Tryz.prog.info? e).map (fun i=>(i.zero,i.size,i.bytes))=some (some z,1,bytes)) (hzs:z.cells.size=1) (hby:bytes≤1024)
  (ho:o.op=.call { callee:=.builtin .append,args:=#[s,x],argTypes:=#[t,t] })
  {v:Value} {vs:List Value} {r:Value} (hs:a.eval s=v) (h:HSx A W w Ps) (i:Nat) (hi:Ps[i]? = some (aV e v vs)) (hnew:∀b,v.ownBlock=some b→W.heap.size≤b)
  {H:Nat} (hx:a.eval x=.slice (some ⟨H,0,none⟩) 1 1) (hc:w.cell? ⟨H,0,none⟩=some r) (h1:r.oneCell'=true) (hlen:vs.length+1≤67108864)
  (k:∀v' w',HSx A W w' (Ps.set i (aV e v' (vs++[r])))→(∀b,v'.ownBlock=some b→W.heap.size≤b)→K (a.put o.dst v') w'):o.wp Tryz.prog a w K Q:=by
 obtain ⟨F0,hf,_⟩:=HSx.get h i hi;refine zDP s x ht hinfo hzs (by decide) ho (base:=0) (news:=[r]) hs hf.1 (Nat.zero_le _) hx rfl ?_ (by intro u hu; simp at hu; subst hu; exact h1) (by omega) hby ?_
 ·intro j u hj
  match j,hj with
  | 0,hj=>simp at hj; subst hj; simpa [Addr.add] using hc
 ·intro v' w' h2 h3 h4;refine k v' w' (h.upd i hi (st_V _ _ _) (zBA h.bl h3 hnew) h3.size fun F hF _=>⟨fun b=>v'.ownBlock=some b,⟨?_,fun b hb=>hb⟩,fun b hb=>?_,fun b hl hb=>h3.block b hl (fun e=>hb (hF.2 b e.symm))⟩) (fun b hb=>?_)
  ·rw [List.length_append]; exact h2
  ·rcases h4 b hb with e | e
   ·exact .inl (hF.2 b e)
   ·exact .inr ⟨e,(h2.lt b hb).2⟩
  ·rcases h4 b hb with e | e
   ·exact hnew b e
   ·exact Nat.le_trans h.bl.size e
theorem zCg {A:Nat→Prop} {W:World} {Ps:List zAI} (hgd:o.guard=none) (s x:Operand) {t e:TypeId} {z:Value} {bytes:Nat} (ht:Tryz.prog.underlying t=some (.slice e))
  (hinfo:(Tryz.prog.info? e).map (fun i=>(i.zero,i.size,i.bytes))=some (some z,1,bytes)) (hzs:z.cells.size=1) (hby:bytes≤1024)
  (ho:o.op=.call { callee:=.builtin .append,args:=#[s,x],argTypes:=#[t,t] })
  {v:Value} {vs:List Value} {r:Value} (hs:a.eval s=v) (h:HSx A W w Ps) (i:Nat) (hi:Ps[i]? = some (aV e v vs)) (hnew:∀b,v.ownBlock=some b→W.heap.size≤b)
  {H:Nat} (hx:a.eval x=.slice (some ⟨H,0,none⟩) 1 1) (hc:w.cell? ⟨H,0,none⟩=some r) (h1:r.oneCell'=true) (hlen:vs.length+1≤67108864)
  (k:∀v' w',HSx A W w' (Ps.set i (aV e v' (vs++[r])))→(∀b,v'.ownBlock=some b→W.heap.size≤b)→wpList Tryz.prog ops Q rest (a.put o.dst v') w'):wpList Tryz.prog ops Q (o::rest) a w :=
 wpList_plain hgd fun _ hK=>zJk s x ht hinfo hzs hby ho hs h i hi hnew hx hc h1 hlen fun v' w' h2 h3=>hK _ _ (k v' w' h2 h3)
theorem zAH {A:Nat→Prop} {W:World} {Ps:List zAI} (hgd:o.guard=none) (s x:Operand)
  (ho:o.op=.call { callee:=.builtin .append,args:=#[s,x],argTypes:=#[24,24] })
  {v:Value} {vs:List Value} {r:Value} (hs:a.eval s=v) (h:HSx A W w Ps) (i:Nat) (hi:Ps[i]? = some (aV 29 v vs)) (hnew:∀b,v.ownBlock=some b→W.heap.size≤b)
  {H:Nat} (hx:a.eval x=.slice (some ⟨H,0,none⟩) 1 1) (hc:w.cell? ⟨H,0,none⟩=some r) (h1:r.oneCell'=true) (hlen:vs.length+1≤67108864)
  (k:∀v' w',HSx A W w' (Ps.set i (aV 29 v' (vs++[r])))→(∀b,v'.ownBlock=some b→W.heap.size≤b)→wpList Tryz.prog ops Q rest (a.put o.dst v') w'):wpList Tryz.prog ops Q (o::rest) a w :=
 zCg hgd s x Tryz.underlying24 zCN rfl (by decide) ho hs h i hi hnew hx hc h1 hlen k
end
theorem HS.newV {w0 w:World} {Ps:List zAI} {e:TypeId} {v:Value} {vs:List Value} (h:HS w0 w Ps) (i:Nat) (hi:Ps[i]? = some (aV e v vs)):∀b,v.ownBlock=some b→w0.heap.size≤b:=by
 obtain ⟨F,hF,hn⟩:=h.get i hi;exact fun b hb=>(hn b (hF.2 b hb)).1
end Go.Proofs.YtlgcdacpjcnjgaaGreatDoor
