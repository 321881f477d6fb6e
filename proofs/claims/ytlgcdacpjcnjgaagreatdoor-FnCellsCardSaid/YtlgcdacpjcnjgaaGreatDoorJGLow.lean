/- Parts of reduced words: they do not depend on the word, and from each there is a way up, letter by letter. Plain. No condition. -/
import Derived.Test.YtlgcdacpjcnjgaaGreatDoorJGMrg
import Derived.Test.YtlgcdacpjcnjgaaGreatDoorJGKeys
import Derived.Deep.RegionWith
import Derived.Test.YtlgcdacpjcnjgaaGreatDoorJGWsR
namespace Go.Proofs.YtlgcdacpjcnjgaaGreatDoor
open Go.RowKit
set_option maxRecDepth 20000
namespace Cox
variable {n:Nat} {c:Nat→Nat→Int}
theorem zMi {i:Nat} {w:List Nat} (hi:i<n) (hw:Lets n w):Lets n (i::w):=fun j hj=>by
 rcases List.mem_cons.1 hj with rfl | hj
 ·exact hi
 ·exact hw j hj
theorem zOr {x w:List Nat} (hw:Lets n w) (hx:x.Sublist w):Lets n x:=fun j hj=>hw j (hx.subset hj)
theorem zOq {i:Nat} (hi:i<n):Lets n [i]:=zMi hi (fun j hj=>by simp at hj)
theorem zFT (h:Car n c):∀{w:List Nat},Lets n w→Eqv n c (w++w.reverse) []
 | [],_=>Eqv.refl _
 | i::w,hw=>by
  have hi:i<n:=hw i (by simp);have ih:=zFT h (w:=w) (fun j hj=>hw j (by simp [hj]));have e:(i::w)++(i::w).reverse=[i]++((w++w.reverse)++[i]):=by simp
  rw [e];exact ((Eqv.refl [i]).app (ih.app (Eqv.refl [i]))).trans (Eqv.two h hi)
theorem zOa (h:Car n c) {w:List Nat} (hw:Lets n w):Eqv n c (w.reverse++w) []:=by
 have:=zFT h (zAb hw);rwa [List.reverse_reverse] at this
theorem zOZ (h:Car n c) {a b:List Nat} (ha:Lets n a) (hb:Lets n b) (k:Eqv n c a b):Eqv n c a.reverse b.reverse:=by
 have h1:Eqv n c (a.reverse++[]) (a.reverse++(b++b.reverse)):=(Eqv.refl _).app (zFT h hb).symm;have h2:Eqv n c (a.reverse++(b++b.reverse)) (a.reverse++(a++b.reverse)):=(Eqv.refl _).app (k.symm.app (Eqv.refl _));have h3:Eqv n c ((a.reverse++a)++b.reverse) ([]++b.reverse):=(zOa h ha).app (Eqv.refl _);rw [List.append_nil] at h1;rw [List.append_assoc] at h3;exact h1.trans (h2.trans h3)
theorem zMO (h:Car n c) {x:List Nat} (hx:Lets n x) {j:Nat} (hj:j<n) (hn:NegA n c x.reverse j):∃x2,x2.Sublist x∧x2.length+1=x.length∧Eqv n c (j::x) x2:=by
 obtain ⟨x2,a1,a2,a3,a4⟩:=zEq h hj (zAb hx) hn;have b4:=zOZ h (lets_app (zAb hx) (zOq hj)) a1 a4;have e2:(x.reverse++[j]).reverse=j::x:=by simp
 rw [e2] at b4;exact ⟨x2.reverse,by have:=List.reverse_sublist.2 a3; simpa using this,by simp at a2 ⊢; omega,b4⟩
theorem zKW (h:Car n c):∀(N:Nat) (w:List Nat),w.length≤N→Lets n w→(∀k,k<n→aW c w one k=1)→Eqv n c w []
 | _,[],_,_,_=>Eqv.refl _
 | 0,i::w,hN,_,_=>by simp at hN
 | N+1,i::w,hN,hw,h1=>by
  have hi:i<n:=hw i (by simp);have hw':Lets n w:=fun j hj=>hw j (by simp [hj]);have e:aW c w one i-aW c w one i*c i i=1:=h1 i hi;rw [h.diag i hi] at e;have hn:NegA n c w.reverse i:=by
   rcases coh h (zAb hw') hi with hp | hn
   ·rw [zEN h hw' hi] at e;have:=(zCF hp.2).1;omega
   ·exact hn
  obtain ⟨x2,a3,a2,b4⟩:=zMO h hw' hi hn;exact b4.trans (zKW h N x2 (by simp at hN; omega) (zOr hw' a3) (fun k hk=>by rw [<-b4.m]; exact h1 k hk))
theorem same_eqv (h:Car n c) {w w':List Nat} (hw:Lets n w) (hw':Lets n w') (he:∀k,k<n→aW c w one k=aW c w' one k):Eqv n c w w':=by
 have h1:∀k,k<n→aW c (w'.reverse++w) one k=1:=fun k hk=>by
  rw [aW_append,aW_congr h he (zAb hw') k hk,zCW h one hw'];rfl
 have h2:=zKW h _ _ (zTI _) (lets_app (zAb hw') hw) h1;have h3:Eqv n c (w'++(w'.reverse++w)) (w'++[]):=(Eqv.refl w').app h2;have h4:Eqv n c ((w'++w'.reverse)++w) ([]++w):=(zFT h hw').app (Eqv.refl w);rw [List.append_assoc] at h4;rw [List.append_nil] at h3;exact h4.symm.trans h3
end Cox
end Go.Proofs.YtlgcdacpjcnjgaaGreatDoor
namespace Go.Proofs.YtlgcdacpjcnjgaaGreatDoor
open Go.RowKit
set_option maxRecDepth 20000
section
variable {c:List (List Int)}
def PtL (c:List (List Int)) (m w:List Int):Prop:=∃z:List Int,z.Sublist w∧zAF c z=m
theorem zMj {n:Nat} {z w:List Int} (h:Lets n w) (hz:z.Sublist w):Lets n z:=fun x hx=>h x (hz.subset hx)
theorem zQi (hc:CartanP c) {x y:List Int} (hx:Lets c.length x) (hy:Lets c.length y) (lx:x.length≤30) (ly:y.length≤30):Cox.Eqv c.length (ent c) (toN x) (toN y)↔zAF c x=zAF c y:=by
 have n1:=zBf hc hx lx;have n2:=zBf hc hy ly;constructor
 ·intro h;exact zCU (zBn hc hx lx) (zBn hc hy ly) (fun k hk=>by rw [n1 k hk,n2 k hk,h.m])
 ·intro h;exact Cox.same_eqv hc.car (zCQ hx) (zCQ hy) (fun k hk=>by rw [<-n1 k hk,<-n2 k hk,h])
theorem zQ4 (hc:CartanP c) {x:List Int} (hx:Lets c.length x) (lx:x.length≤24):Nf c (zAD c x)∧zAF c (zAD c x)=zAF c x:=by
 have e:=zBQ hc x.length (zAa hc hx (by omega)) (by omega);have h1:=zLd hc hx (by omega);have h2:=zCP hc hx (by omega);exact ⟨⟨h1,by omega,by show nf c 30 (zAF c (nf c 30 (zAF c x)))=zAD c x; rw [e]; rfl⟩,e⟩
structure Blw (c:List (List Int)) (w y:List Int):Prop where
 nf:Nf c y
 part:PtL c (zAF c y) w
theorem Blw.le (hc:CartanP c) {w y:List Int} (hw:Lets c.length w) (lw:w.length≤24) (h:Blw c w y):y.length≤w.length:=by
 obtain ⟨z,z1,z2⟩:=h.part;have hz:=zMj hw z1;have:=z1.length_le;have h2:=zCP hc hz (by omega);unfold zAD at h2;rw [z2] at h2;have h3:=h.nf.nf;unfold zAD at h3;rw [h3] at h2;omega
end
end Go.Proofs.YtlgcdacpjcnjgaaGreatDoor
namespace Go.Proofs.YtlgcdacpjcnjgaaGreatDoor
open Go.RowKit
set_option maxRecDepth 20000
def Nf15 (c:List (List Int)) (x:List Int):Prop:=Nf c x∧x.length≤15
theorem wd15 {c:List (List Int)} (hc:isC c=true) {x:List Int} (h:Nf15 c x):isWd c x=true:=by
 unfold isWd;simp only [Bool.and_eq_true,decide_eq_true_eq];refine ⟨⟨hc,h.2⟩,zCh.2 fun y hy=>?_⟩;have:=h.1.lets y hy;unfold ptB inR;simp;omega
end Go.Proofs.YtlgcdacpjcnjgaaGreatDoor
