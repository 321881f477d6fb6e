/- The normal forms of all elements of a group with at most 200 elements: how many there are. Plain lists. -/
import Derived.Test.YtiohpndgemonjaaGreatJGSy
import Derived.Test.YtiohpndgemonjaaGreatJGOrbP
namespace Go.Proofs.YtiohpndgemonjaaGreat
open Go.RowKit
set_option maxRecDepth 20000
section
variable {c:List (List Int)}
theorem Im.wt (h:FinP c) {v:List Int} {m:Nat} (him:Im c v m):Wt c (cors c) v:=by
 obtain ⟨hl,w,hw,_,hn⟩:=him;have h0:Wt c (cors c) (List.replicate c.length 1):=zEL h.cor (by simp) (fun x hx=>by have:=(List.mem_replicate.1 hx).2; omega);obtain ⟨h1,h2⟩:=zA5 h.cor h.cart h0 hw;have e:v=actN c w (List.replicate c.length 1):=zBJ hl h1.len fun k hk=>by
  rw [hn k hk,h2 k hk];exact Cox.aW_congr h.cart.car (fun j hj=>by simp [Cox.one,num,hj]) hw k hk
 rw [e]; exact h1
theorem zN5 (h:FinP c) {v:List Int} {m:Nat} (him:Im c v m):(nf c 30 v).length≤24:=by
 have hd:DomS c (cors c) v (negs c (cors c) v):=⟨him.wt h,rfl⟩;exact Nat.le_trans (zEj (zCZ h.cor h.cart) _ hd) (hd.le h.cor)
structure Nf (c:List (List Int)) (x:List Int):Prop where
 lets:Lets c.length x
 le:x.length≤24
 nf:zBl c x=x
theorem Nf.im (hc:CartanP c) {x:List Int} (h:Nf c x):Im c (zAa c x) x.length:=zBb hc h.lets (by have:=h.le; omega)
theorem Nf.inj {x y:List Int} (hx:Nf c x) (hy:Nf c y) (e:zAa c x=zAa c y):x=y:=by
 rw [<-hx.nf,<-hy.nf];unfold zBl;rw [e]
theorem Im.nf (h:FinP c) {v:List Int} {m:Nat} (him:Im c v m) (hm:m≤29):Nf c (nf c 30 v):=by
 refine ⟨zDr (zGm h.cart) m ⟨him,by omega⟩,zN5 h him,?_⟩;unfold zBl;rw [zFm h.cart m him hm]
end
end Go.Proofs.YtiohpndgemonjaaGreat
namespace Go.Proofs.YtiohpndgemonjaaGreat
open Go.RowKit
set_option maxRecDepth 20000
namespace Cox
variable {n:Nat} {c:Nat→Nat→Int}
end Cox
section
variable {c:List (List Int)}
theorem zCi {w:List Int} (h:Lets c.length w):Cox.Lets c.length (toN w):=fun i hi=>by
 obtain ⟨x,hx,rfl⟩:=List.mem_map.1 hi;have:=h x hx;omega
theorem zDa (hc:CartanP c):∀{w:List Int},Lets c.length w→w.length≤30→∀k,k<c.length→num (zAa c w) k=Cox.aW (ent c) (toN w) Cox.one k
 | [],_,_,k,hk=>by simp [zAa,act,num,Cox.aW,Cox.one,toN,hk]
 | i::w,hw,hl,k,hk=>by
  have hw':Lets c.length w:=fun x hx=>hw x (by simp [hx]);have hl':w.length≤29:=by simp at hl; omega
  have ih:=fun k hk=>zDa hc hw' (by omega) k hk;have h2:=hw i (by simp);have hlen:=(zBb hc hw' (by omega)).len;show num (refl c i.toNat (zAa c w)) k=Cox.sW (ent c) i.toNat (Cox.aW (ent c) (toN w) Cox.one) k;exact zB4 hc hlen (zCi hw') (by simp [toN]; omega) ih (by omega) hk
theorem zEg (hc:CartanP c) {w:List Int} (hw:Lets c.length w) (hl:w.length≤30):(zAa c w).length=c.length:=(zBb hc hw hl).len
end
end Go.Proofs.YtiohpndgemonjaaGreat
namespace Go.Proofs.YtiohpndgemonjaaGreat
open Go.RowKit
set_option maxRecDepth 20000
theorem zQA (x:List Int):¬cmpW x x<0:=by rw [zE0.2 rfl]; omega
abbrev SrtE (l:List (List Int)):Prop:=l.Pairwise fun a b=>cmpW a b<0
theorem SrtE.nodup {l:List (List Int)} (h:SrtE l):l.Nodup:=h.imp (fun {a b} hab e=>by subst e; exact zQA _ hab)
def putE (v:List Int):List (List Int)→List (List Int)
 | []=>[v]
 | x::l=>if x=v then x::l else if cmpW v x<0 then v::x::l else x::putE v l
section
variable {c:List (List Int)}
structure Shl (c:List (List Int)) (m:Nat) (S:List (List Int)):Prop where
 nd:S.Nodup
 im:∀v∈S,Im c v m∧(nf c 30 v).length=m
 all:∀(v:List Int) (m':Nat),Im c v m'→m'≤29→(nf c 30 v).length=m→v∈S
theorem Shl.start (hc:CartanP c):Shl c 0 [List.replicate c.length 1]:=by
 have h0:Im c (List.replicate c.length 1) 0:=zBb hc (w:=[]) (fun x hx=>by simp at hx) (by simp);refine ⟨zBs _,fun v hv=>?_,fun v m' hm hm' hl=>?_⟩
 ·rw [List.mem_singleton] at hv;subst hv;exact ⟨h0,by rw [zEi h0.zero]; rfl⟩
 ·have e:zAD v=none:=by
   cases e:zAD v with
   | none=>rfl
   | some i =>
    obtain ⟨_,_,_,h2⟩:=zGr hc hm (by omega) e;rw [h2] at hl; simp at hl
  rw [hm.ones hc e];exact List.mem_singleton.2 rfl
theorem Shl.le (h:FinP c) {m:Nat} {S:List (List Int)} (hS:Shl c m S) (hne:S.length≠0):m≤24:=by
 obtain ⟨v,hv⟩:=List.exists_mem_of_ne_nil S (fun e=>hne (by rw [e]; rfl));obtain ⟨h1,h2⟩:=hS.im v hv;have:=zN5 h h1;omega
end
end Go.Proofs.YtiohpndgemonjaaGreat
