/- The normal forms of all elements of a group with at most 200 elements: how many there are. Plain lists. -/
import Derived.Test.YtlchafedbnihoaaGreatJGSy
namespace Go.Proofs.YtlchafedbnihoaaGreat
open Go.RowKit
set_option maxRecDepth 20000
section
variable {c:List (List Int)}
theorem Im.wt (h:FinP c) {v:List Int} {m:Nat} (him:Im c v m):Wt c (cors c) v:=by
 obtain ⟨hl,w,hw,_,hn⟩:=him;have h0:Wt c (cors c) (List.replicate c.length 1):=zNU h.cor (by simp) (fun x hx=>by have:=(List.mem_replicate.1 hx).2; omega);obtain ⟨h1,h2⟩:=zGo h.cor h.cart h0 hw;have e:v=actN c w (List.replicate c.length 1):=zC9 hl h1.len fun k hk=>by
  rw [hn k hk,h2 k hk];exact Cox.aW_congr h.cart.car (fun j hj=>by simp [Cox.one,num,hj]) hw k hk
 rw [e]; exact h1
theorem zNc (h:FinP c) {v:List Int} {m:Nat} (him:Im c v m):(nf c 30 v).length≤24:=by
 have hd:DomS c (cors c) v (negs c (cors c) v):=⟨him.wt h,rfl⟩;exact Nat.le_trans (zEK (zMa h.cor h.cart) _ hd) (hd.le h.cor)
structure Nf (c:List (List Int)) (x:List Int):Prop where
 lets:Lets c.length x
 le:x.length≤24
 nf:zAB c x=x
theorem Nf.im (hc:CartanP c) {x:List Int} (h:Nf c x):Im c (zAC c x) x.length:=zAV hc h.lets (by have:=h.le; omega)
theorem Nf.inj {x y:List Int} (hx:Nf c x) (hy:Nf c y) (e:zAC c x=zAC c y):x=y:=by
 rw [<-hx.nf,<-hy.nf];unfold zAB;rw [e]
theorem Im.nf (h:FinP c) {v:List Int} {m:Nat} (him:Im c v m) (hm:m≤29):Nf c (nf c 30 v):=by
 refine ⟨zFX (zDb h.cart) m ⟨him,by omega⟩,zNc h him,?_⟩;unfold zAB;rw [zBH h.cart m him hm]
theorem zKd {α β:Type} {f:α→β}:∀{l:List α},(∀x∈l,∀y∈l,f x=f y→x=y)→l.Nodup→(l.map f).Nodup:=fun {_} h hn=>zDx h hn
end
end Go.Proofs.YtlchafedbnihoaaGreat
namespace Go.Proofs.YtlchafedbnihoaaGreat
open Go.RowKit
set_option maxRecDepth 20000
namespace Cox
variable {n:Nat} {c:Nat→Nat→Int}
theorem zNK (h:Car n c) {w:List Nat} (hw:Lets n w) {i:Nat} (hi:i<n) (hneg:aW c w one i<0):∃w',Lets n w'∧w'.length+1=w.length∧∀m,aW c (i::w) m=aW c w' m:=by
 have hr:=lets_rev hw;rcases coh h hr hi with hp | hn
 ·exfalso;rw [zC2 h hw hi] at hneg;have:=(zBW hp.2).1;omega
 ·obtain ⟨w',a1,a2,a3⟩:=zCi h hi hr (fun y _ hy=>coh h hy hi) hn;refine ⟨w'.reverse,lets_rev a1,by simp at a2 ⊢; omega,fun m=>?_⟩;have e1:(i::w)=(w.reverse++[i]).reverse:=by simp
  have hl:Lets n (w.reverse++[i]):=fun j hj=>by
   rcases List.mem_append.1 hj with h | h
   ·exact hr j h
   ·simp at h; omega
  rw [e1];have b1:=zFN h m a1;have b2:=zCW h (aW c w'.reverse m) hl;rw [a3.m,b1] at b2;exact b2
theorem zLR (h:Car n c):∀(N:Nat) (w:List Nat),w.length≤N→Lets n w→(∀k,k<n→aW c w one k=1)→∀m,aW c w m=m
 | _,[],_,_,_=>fun _=>rfl
 | 0,i::w,hN,_,_=>by simp at hN
 | N+1,i::w,hN,hw,h1=>by
  have hi:i<n:=hw i (by simp);have hw':Lets n w:=fun j hj=>hw j (by simp [hj]);have e:aW c w one i-aW c w one i*c i i=1:=h1 i hi;rw [h.diag i hi] at e;obtain ⟨w',a1,a2,a3⟩:=zNK h hw' hi (by omega);have h2:∀k,k<n→aW c w' one k=1:=fun k hk=>by rw [<-a3]; exact h1 k hk
  intro m;rw [a3];exact zLR h N w' (by simp at hN; omega) a1 h2 m
theorem same_img (h:Car n c) {w w':List Nat} (hw:Lets n w) (hw':Lets n w') (he:∀k,k<n→aW c w one k=aW c w' one k) (m:Nat→Int):aW c w m=aW c w' m:=by
 have h1:∀k,k<n→aW c (w'.reverse++w) one k=1:=fun k hk=>by
  rw [aW_append,aW_congr h he (lets_rev hw') k hk,zCW h one hw'];rfl
 have h2:=zLR h _ _ (zQd _) (lets_app (lets_rev hw') hw) h1 m;rw [aW_append] at h2;have h3:=zFN h (aW c w m) hw';rw [h2] at h3;exact h3.symm
end Cox
section
variable {c:List (List Int)}
theorem zBf {w:List Int} (h:Lets c.length w):Cox.Lets c.length (toN w):=fun i hi=>by
 obtain ⟨x,hx,rfl⟩:=List.mem_map.1 hi;have:=h x hx;omega
theorem zBy (hc:CartanP c):∀{w:List Int},Lets c.length w→w.length≤30→∀k,k<c.length→num (zAC c w) k=Cox.aW (ent c) (toN w) Cox.one k
 | [],_,_,k,hk=>by simp [zAC,act,num,Cox.aW,Cox.one,toN,hk]
 | i::w,hw,hl,k,hk=>by
  have hw':Lets c.length w:=fun x hx=>hw x (by simp [hx]);have hl':w.length≤29:=by simp at hl; omega
  have ih:=fun k hk=>zBy hc hw' (by omega) k hk;have h2:=hw i (by simp);have hlen:=(zAV hc hw' (by omega)).len;show num (refl c i.toNat (zAC c w)) k=Cox.sW (ent c) i.toNat (Cox.aW (ent c) (toN w) Cox.one) k;exact zBr hc hlen (zBf hw') (by simp [toN]; omega) ih (by omega) hk
theorem zDK (hc:CartanP c) {w:List Int} (hw:Lets c.length w) (hl:w.length≤30):(zAC c w).length=c.length:=(zAV hc hw hl).len
theorem zCo {a b:List Int} {n:Nat} (ha:Lets n a) (hb:Lets n b):Lets n (a++b):=fun x hx=>by
 rcases List.mem_append.1 hx with h | h
 ·exact ha x h
 ·exact hb x h
theorem zKG (a b:List Int):toN (a++b)=toN a++toN b:=by simp [toN]
theorem zHO (hc:CartanP c) {y y' z:List Int} (hy:Lets c.length y) (hy':Lets c.length y') (hz:Lets c.length z) (hl:y.length+z.length≤30) (hl':y'.length+z.length≤30) (he:zAC c y=zAC c y'):zAC c (y++z)=zAC c (y'++z):=by
 have n1:=zBy hc (zCo hy hz) (by simp; omega);have n2:=zBy hc (zCo hy' hz) (by simp; omega);have m1:=zBy hc hy (by omega);have m2:=zBy hc hy' (by omega);refine zC9 (n:=c.length) (zDK hc (zCo hy hz) (by simp; omega)) (zDK hc (zCo hy' hz) (by simp; omega)) fun k hk=>?_;rw [n1 k hk,n2 k hk,zKG,zKG,Cox.aW_append,Cox.aW_append];exact congrFun (Cox.same_img hc.car (zBf hy) (zBf hy') (fun j hj=>by rw [<-m1 j hj,<-m2 j hj,he]) _) k
end
end Go.Proofs.YtlchafedbnihoaaGreat
namespace Go.Proofs.YtlchafedbnihoaaGreat
open Go.RowKit
set_option maxRecDepth 20000
theorem zJb:∀x y:List Int,cmpL y x = -cmpL x y
 | [],[]=>rfl
 | [],_::_=>rfl
 | _::_,[]=>rfl
 | x::xs,y::ys=>by
  simp only [cmpL];rw [zJb xs ys];by_cases h1:x<y
  ·rw [if_pos h1,if_neg (by omega),if_pos h1]; rfl
  ·by_cases h2:y<x
   ·rw [if_neg h1,if_pos h2,if_pos h2,if_neg h1]
   ·rw [if_neg h1,if_neg h2,if_neg h2,if_neg h1]
theorem zN8 (x y:List Int):cmpW y x = -cmpW x y:=by
 unfold cmpW;rw [zJb];by_cases h:x.length=y.length
 ·rw [if_pos h,if_pos h.symm]
 ·rw [if_neg h,if_neg (fun e=>h e.symm)];by_cases h2:x.length<y.length
  ·rw [if_pos h2,if_neg (by omega)]; rfl
  ·rw [if_neg h2,if_pos (by omega)]
theorem zH9:∀{x y z:List Int},x.length=y.length→y.length=z.length→cmpL x y<0→cmpL y z<0→cmpL x z<0
 | [],[],[],_,_,h,_=>by simp [cmpL] at h
 | [],[],_::_,_,h,_,_=>by simp at h
 | [],_::_,_,h,_,_,_=>by simp at h
 | _::_,[],_,h,_,_,_=>by simp at h
 | _::_,_::_,[],_,h,_,_=>by simp at h
 | x::xs,y::ys,z::zs,h1,h2,h3,h4=>by
  have ih:=zH9 (x:=xs) (y:=ys) (z:=zs) (by simpa using h1) (by simpa using h2);simp only [cmpL] at *;by_cases a1:x<y
  ·by_cases a2:y<z
   ·rw [if_pos (by omega)]; omega
   ·rw [if_neg a2] at h4;by_cases a3:z<y
    ·rw [if_pos a3] at h4; omega
    ·rw [if_pos (by omega)]; omega
  ·rw [if_neg a1] at h3;by_cases a2:y<x
   ·rw [if_pos a2] at h3; omega
   ·rw [if_neg a2] at h3;by_cases a3:y<z
    ·rw [if_pos (by omega)]; omega
    ·rw [if_neg a3] at h4;by_cases a4:z<y
     ·rw [if_pos a4] at h4; omega
     ·rw [if_neg a4] at h4;rw [if_neg (by omega),if_neg (by omega)];exact ih h3 h4
theorem zLA {x y:List Int} (h:cmpW x y<0):x.length≤y.length:=by
 unfold cmpW at h;split at h
 ·omega
 ·split at h <;> omega
theorem zHG {x y:List Int} (h:x.length<y.length):cmpW x y<0:=by
 unfold cmpW;rw [if_neg (by omega),if_pos h]; omega
theorem zDj {x y z:List Int} (h1:cmpW x y<0) (h2:cmpW y z<0):cmpW x z<0:=by
 have l1:=zLA h1;have l2:=zLA h2;rcases Nat.lt_or_ge x.length z.length with h | h
 ·exact zHG h
 ·have e1:x.length=y.length:=by omega
  have e2:y.length=z.length:=by omega
  unfold cmpW at *;rw [if_pos e1] at h1;rw [if_pos e2] at h2;rw [if_pos (e1.trans e2)];exact zH9 e1 e2 h1 h2
theorem zEA (x:List Int):¬cmpW x x<0:=by rw [zBO.2 rfl]; omega
theorem zEV {x y:List Int} (h:x≠y):cmpW x y<0∨cmpW y x<0:=by
 have h1:cmpW x y≠0:=fun e=>h (zBO.1 e);rw [zN8 x y];omega
abbrev SrtE (l:List (List Int)):Prop:=l.Pairwise fun a b=>cmpW a b<0
theorem SrtE.nodup {l:List (List Int)} (h:SrtE l):l.Nodup:=h.imp (fun {a b} hab e=>by subst e; exact zEA _ hab)
theorem zI7:∀{l m:List (List Int)},SrtE l→SrtE m→(∀x,x∈l↔x∈m)→l=m
 | [],[],_,_,_=>rfl
 | [],y::m,_,_,h=>by have:=(h y).2 (List.mem_cons_self ..); simp at this
 | x::l,[],_,_,h=>by have:=(h x).1 (List.mem_cons_self ..); simp at this
 | x::l,y::m,hl,hm,h=>by
  have h1:=List.pairwise_cons.1 hl;have h2:=List.pairwise_cons.1 hm;have e:x=y:=by
   rcases List.mem_cons.1 ((h x).1 (List.mem_cons_self ..)) with e | hx
   ·exact e
   ·rcases List.mem_cons.1 ((h y).2 (List.mem_cons_self ..)) with e | hy
    ·exact e.symm
    ·exact absurd (zDj (h1.1 y hy) (h2.1 x hx)) (zEA _)
  subst e;have hnl:x∉l:=fun hx=>zEA _ (h1.1 x hx);have hnm:x∉m:=fun hx=>zEA _ (h2.1 x hx);rw [zI7 h1.2 h2.2 (fun z=>?_)];constructor
  ·intro hz;rcases List.mem_cons.1 ((h z).1 (List.mem_cons_of_mem _ hz)) with rfl | h'
   ·exact absurd hz hnl
   ·exact h'
  ·intro hz;rcases List.mem_cons.1 ((h z).2 (List.mem_cons_of_mem _ hz)) with rfl | h'
   ·exact absurd hz hnm
   ·exact h'
def putE (v:List Int):List (List Int)→List (List Int)
 | []=>[v]
 | x::l=>if x=v then x::l else if cmpW v x<0 then v::x::l else x::putE v l
theorem zEb {v x:List Int}:∀{l:List (List Int)},x∈putE v l↔x=v∨x∈l
 | []=>by simp [putE]
 | y::l=>by
  unfold putE;by_cases h:y=v
  ·rw [if_pos h]; subst h; simp
  ·rw [if_neg h];by_cases h2:cmpW v y<0
   ·rw [if_pos h2]; simp
   ·rw [if_neg h2,List.mem_cons,zEb,List.mem_cons];constructor
    ·rintro (h | h | h)
     ·exact .inr (.inl h)
     ·exact .inl h
     ·exact .inr (.inr h)
    ·rintro (h | h | h)
     ·exact .inr (.inl h)
     ·exact .inl h
     ·exact .inr (.inr h)
theorem zIv {v:List Int}:∀{l:List (List Int)},SrtE l→SrtE (putE v l)
 | [],_=>List.pairwise_singleton _ _
 | y::l,h=>by
  have hc:=List.pairwise_cons.1 h;unfold putE;by_cases e:y=v
  ·rw [if_pos e]; exact h
  ·rw [if_neg e];by_cases h2:cmpW v y<0
   ·rw [if_pos h2];refine List.pairwise_cons.2 ⟨fun x hx=>?_,h⟩;rcases List.mem_cons.1 hx with rfl | hx
    ·exact h2
    ·exact zDj h2 (hc.1 x hx)
   ·rw [if_neg h2];refine List.pairwise_cons.2 ⟨fun x hx=>?_,zIv hc.2⟩;rcases zEb.1 hx with rfl | hx
    ·rcases zEV e with h3 | h3
     ·exact h3
     ·exact absurd h3 h2
    ·exact hc.1 x hx
def zBT (q:List (List Int)):List (List Int):=q.foldl (fun l v=>putE v l) []
theorem zGe:∀{q l:List (List Int)},SrtE l→SrtE (q.foldl (fun l v=>putE v l) l)∧∀x,x∈q.foldl (fun l v=>putE v l) l↔x∈l∨x∈q
 | [],l,h=>⟨h,fun x=>by simp⟩
 | v::q,l,h=>by
  obtain ⟨a,b⟩:=zGe (q:=q) (zIv (v:=v) h);refine ⟨a,fun x=>?_⟩;rw [List.foldl_cons,b,zEb,List.mem_cons];constructor
  ·rintro ((h | h) | h)
   ·exact .inr (.inl h)
   ·exact .inl h
   ·exact .inr (.inr h)
  ·rintro (h | h | h)
   ·exact .inl (.inr h)
   ·exact .inl (.inl h)
   ·exact .inr h
theorem zBs (q:List (List Int)):SrtE (zBT q)∧∀x,x∈zBT q↔x∈q:=by
 obtain ⟨a,b⟩:=zGe (q:=q) (l:=[]) List.Pairwise.nil;exact ⟨a,fun x=>by rw [show zBT q=q.foldl (fun l v=>putE v l) [] from rfl,b]; simp⟩
section
variable {c:List (List Int)}
theorem zLk (hc:CartanP c):Nf c []:=⟨fun x hx=>by simp at hx,by simp,by
 unfold zAB;refine zC1 ?_;exact (zAV hc (w:=[]) (fun x hx=>by simp at hx) (by simp)).zero⟩
def zDh (c:List (List Int)) (v:List Int) (acc:List (List Int)) (i:Nat):List (List Int):=if num v i<0 then acc else if refl c i v∈acc then acc else acc++[refl c i v]
def zHu (c:List (List Int)) (acc:List (List Int)) (v:List Int):List (List Int):=(List.range c.length).foldl (zDh c v) acc
def zQH (c:List (List Int)) (S:List (List Int)):List (List Int):=S.foldl (zHu c) []
theorem zKO {v x:List Int} {acc:List (List Int)} {i:Nat}:x∈zDh c v acc i↔x∈acc∨(¬num v i<0∧x=refl c i v):=by
 unfold zDh;split
 ·rename_i h; exact ⟨fun h=>.inl h,fun h'=>h'.elim id (fun h''=>absurd h h''.1)⟩
 ·rename_i h
  split
  ·rename_i hin
   exact ⟨fun h=>.inl h,fun h'=>h'.elim id (fun h''=>by rw [h''.2]; exact hin)⟩
  ·rw [List.mem_append,List.mem_singleton];exact ⟨fun h'=>h'.elim .inl (fun e=>.inr ⟨h,e⟩),fun h'=>h'.elim .inl (fun e=>.inr e.2)⟩
theorem zKx {v:List Int} {acc:List (List Int)} {i:Nat} (h:acc.Nodup):(zDh c v acc i).Nodup:=by
 unfold zDh;split
 ·exact h
 ·split
  ·exact h
  ·rename_i hin
   exact List.nodup_append.2 ⟨h,zIi _,fun a ha b hb e=>by rw [List.mem_singleton] at hb; subst hb; subst e; exact hin ha⟩
theorem zHC {v x:List Int}:∀{L:List Nat} {acc:List (List Int)},x∈L.foldl (zDh c v) acc↔x∈acc∨∃i∈L,¬num v i<0∧x=refl c i v
 | [],acc=>by simp
 | i::L,acc=>by
  rw [List.foldl_cons,zHC,zKO];constructor
  ·rintro ((h | h) | ⟨j,hj,h⟩)
   ·exact .inl h
   ·exact .inr ⟨i,List.mem_cons_self ..,h⟩
   ·exact .inr ⟨j,List.mem_cons_of_mem _ hj,h⟩
  ·rintro (h | ⟨j,hj,h⟩)
   ·exact .inl (.inl h)
   ·rcases List.mem_cons.1 hj with rfl | hj
    ·exact .inl (.inr h)
    ·exact .inr ⟨j,hj,h⟩
theorem zH5 {v:List Int}:∀{L:List Nat} {acc:List (List Int)},acc.Nodup→(L.foldl (zDh c v) acc).Nodup
 | [],_,h=>h
 | _::L,_,h=>zH5 (L:=L) (zKx h)
theorem zEq {x:List Int}:∀{S acc:List (List Int)},x∈S.foldl (zHu c) acc↔x∈acc∨∃v∈S,∃i,i<c.length∧¬num v i<0∧x=refl c i v
 | [],acc=>by simp
 | v::S,acc=>by
  rw [List.foldl_cons,zEq];unfold zHu;rw [zHC];constructor
  ·rintro ((h | ⟨i,hi,h⟩) | ⟨u,hu,h⟩)
   ·exact .inl h
   ·exact .inr ⟨v,List.mem_cons_self ..,i,List.mem_range.1 hi,h⟩
   ·exact .inr ⟨u,List.mem_cons_of_mem _ hu,h⟩
  ·rintro (h | ⟨u,hu,i,hi,h⟩)
   ·exact .inl (.inl h)
   ·rcases List.mem_cons.1 hu with rfl | hu
    ·exact .inl (.inr ⟨i,List.mem_range.2 hi,h⟩)
    ·exact .inr ⟨u,hu,i,hi,h⟩
theorem zH4:∀{S acc:List (List Int)},acc.Nodup→(S.foldl (zHu c) acc).Nodup
 | [],_,h=>h
 | _::S,_,h=>zH4 (S:=S) (zH5 h)
structure Shl (c:List (List Int)) (m:Nat) (S:List (List Int)):Prop where
 nd:S.Nodup
 im:∀v∈S,Im c v m∧(nf c 30 v).length=m
 all:∀(v:List Int) (m':Nat),Im c v m'→m'≤29→(nf c 30 v).length=m→v∈S
theorem Shl.start (hc:CartanP c):Shl c 0 [List.replicate c.length 1]:=by
 have h0:Im c (List.replicate c.length 1) 0:=zAV hc (w:=[]) (fun x hx=>by simp at hx) (by simp);refine ⟨zIi _,fun v hv=>?_,fun v m' hm hm' hl=>?_⟩
 ·rw [List.mem_singleton] at hv;subst hv;exact ⟨h0,by rw [zC1 h0.zero]; rfl⟩
 ·have e:zAH v=none:=by
   cases e:zAH v with
   | none=>rfl
   | some i =>
    obtain ⟨_,_,_,h2⟩:=zCq hc hm (by omega) e;rw [h2] at hl; simp at hl
  rw [hm.ones hc e];exact List.mem_singleton.2 rfl
theorem Shl.le (h:FinP c) {m:Nat} {S:List (List Int)} (hS:Shl c m S) (hne:S.length≠0):m≤24:=by
 obtain ⟨v,hv⟩:=List.exists_mem_of_ne_nil S (fun e=>hne (by rw [e]; rfl));obtain ⟨h1,h2⟩:=hS.im v hv;have:=zNc h h1;omega
theorem Im.self_neg (hc:CartanP c) {v:List Int} {m:Nat} (h:Im c v m) (hm:m≤30) {i:Nat} (hi:i<c.length):num (refl c i v) i = -(num v i):=by
 obtain ⟨hl,w,hw,hwl,hn⟩:=h;rw [zBr hc hl hw (by omega) hn hi hi,Cox.sW_self hc.car hi,<-hn i hi]
theorem Im.num_ne2 (hc:CartanP c) {v:List Int} {m:Nat} (h:Im c v m) {i:Nat} (hi:i<c.length):num v i≠0:=by
 have hl:i<v.length:=by rw [h.len]; exact hi
 have:=h.ne hc (List.getElem_mem hl);simpa [num,hl] using this
theorem Shl.next (h:FinP c) {m:Nat} {S:List (List Int)} (hS:Shl c m S) (hm:m≤24):Shl c (m+1) (zQH c S):=by
 have hc:=h.cart;refine ⟨zH4 List.nodup_nil,fun y hy=>?_,fun v m' him hm' hl=>?_⟩
 ·rcases zEq.1 hy with hy | ⟨v,hv,i,hi,hpos,rfl⟩
  ·simp at hy
  ·obtain ⟨h1,h2⟩:=hS.im v hv;have h3:=h1.step hc (by omega) hi;refine ⟨h3,?_⟩;have hL:=zNd hc h3 (by omega);have hle:(nf c 30 (refl c i v)).length≤m+1:=zEK (zDb hc) (m+1) ⟨h3,by omega⟩;have hneg:num (refl c i v) i<0:=by
    rw [h1.self_neg hc (by omega) hi];have:=h1.num_ne2 hc hi;omega
   have hil:i<(refl c i v).length:=by rw [h3.len]; exact hi
   have hnm:(refl c i v)[i]? = some (num (refl c i v) i):=by simp [num,hil]
   obtain ⟨m1,e1,h5⟩:=hL.back hc (by omega) hnm hneg;rw [h1.turn_two hc (by omega) hi] at h5;have h6:(nf c 30 v).length≤m1:=zEK (zDb hc) m1 ⟨h5,by omega⟩;omega
 ·cases e:zAH v with
  | none=>rw [zC1 e] at hl; simp at hl
  | some i =>
   obtain ⟨m1,e1,h1,h2⟩:=zCq hc him (by omega) e;rw [h2] at hl;have hi:i<c.length:=by have:=zCG e; rw [him.len] at this; exact this
   have hin:=hS.all (refl c i v) m1 h1 (by omega) (by simpa using hl);refine zEq.2 (.inr ⟨_,hin,i,hi,?_,(him.turn_two hc (by omega) hi).symm⟩);rw [him.self_neg hc (by omega) hi];have:=zHY e;omega
structure BOk (c:List (List Int)) (m:Nat) (out:List (List Int)):Prop where
 srt:SrtE out
 mem:∀x,x∈out↔Nf c x∧x.length≤m
theorem zLl (h:FinP c) {m:Nat} {S:List (List Int)} (hS:Shl c m S) (hm:m≤24):(S.map (nf c 30)).Nodup∧∀x,x∈S.map (nf c 30)↔Nf c x∧x.length=m:=by
 have hc:=h.cart;refine ⟨zKd (fun v hv v' hv' e=>?_) hS.nd,fun x=>⟨fun hx=>?_,fun hx=>?_⟩⟩
 ·rw [<-zBH hc m (hS.im v hv).1 (by omega),<-zBH hc m (hS.im v' hv').1 (by omega),e]
 ·obtain ⟨v,hv,rfl⟩:=List.mem_map.1 hx;exact ⟨(hS.im v hv).1.nf h (by omega),(hS.im v hv).2⟩
 ·have him:=hx.1.im hc;have e:nf c 30 (zAC c x)=x:=hx.1.nf;exact List.mem_map.2 ⟨zAC c x,hS.all _ _ him (by have:=hx.1.le; omega) (by rw [e]; exact hx.2),e⟩
theorem BOk.next (h:FinP c) {m:Nat} {out S:List (List Int)} (hB:BOk c m out) (hS:Shl c (m+1) S) (hm:m+1≤24∨S=[]):BOk c (m+1) (out++zBT (S.map (nf c 30))):=by
 obtain ⟨p1,p2⟩:=zBs (S.map (nf c 30));have key:∀x,x∈zBT (S.map (nf c 30))→Nf c x∧x.length=m+1:=fun x hx=>by
  rcases hm with hm | hm
  ·exact ((zLl h hS hm).2 x).1 ((p2 x).1 hx)
  ·subst hm; simp [zBT] at hx
 refine ⟨List.pairwise_append.2 ⟨hB.srt,p1,fun a ha b hb=>zHG ?_⟩,fun x=>?_⟩
 ·have:=((hB.mem a).1 ha).2;have:=(key b hb).2;omega
 ·rw [List.mem_append,hB.mem];constructor
  ·rintro (⟨h1,h2⟩ | h1)
   ·exact ⟨h1,by omega⟩
   ·exact ⟨(key x h1).1,by rw [(key x h1).2]; exact zQd _⟩
  ·rintro ⟨h1,h2⟩;rcases Nat.lt_or_ge m x.length with hl | hl
   ·refine .inr ((p2 x).2 ?_);have hx1:x.length=m+1:=by omega
    have hle:=h1.le;exact ((zLl h hS (by omega)).2 x).2 ⟨h1,hx1⟩
   ·exact .inl ⟨h1,hl⟩
end
end Go.Proofs.YtlchafedbnihoaaGreat
