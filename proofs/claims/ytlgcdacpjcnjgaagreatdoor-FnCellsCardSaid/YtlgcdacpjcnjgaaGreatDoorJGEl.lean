/- All elements of the groups with at most 200 elements, by their images of the vector of ones, as numbers. Plain lists. -/
import Derived.Test.YtlgcdacpjcnjgaaGreatDoorJGSy
namespace Go.Proofs.YtlgcdacpjcnjgaaGreatDoor
open Go.RowKit
set_option maxRecDepth 20000
def dg64 (a k:Nat):Nat:=a / 64 ^ k % 64
def colN (c:List (List Int)) (i:Nat):Nat:=sumN (fun k=>offN c k i*64 ^ k) c.length
def rhoC (n:Nat):Nat:=sumN (fun k=>33*64 ^ k) n
def upC (c:List (List Int)) (a i:Nat):Nat:=a+(dg64 a i-32)*colN c i-(dg64 a i-32)*(2*64 ^ i)
def kidB (c:List (List Int)) (a i:Nat):Bool:=Nat.ble 33 (dg64 a i) && (List.range i).all fun k=>Nat.ble 33 (dg64 (upC c a i) k)
def kids (c:List (List Int)) (a:Nat):List Nat:=(List.range c.length).filterMap fun i=>if kidB c a i=true then some (upC c a i) else none
def zAi (c:List (List Int)):Nat→List Nat
 | 0=>[rhoC c.length]
 | m+1=>(zAi c m).flatMap (kids c)
def zBE (c:List (List Int)):Nat→List Nat→List Nat
 | 0,_=>[]
 | f+1,S=>S++zBE c f (S.flatMap (kids c))
def elV (c:List (List Int)):List Nat:=zBE c 25 [rhoC c.length]
def okUp (c:List (List Int)) (a i:Nat):Bool:=Nat.ble (dg64 a i) 32 || (List.range c.length).all fun k=>Nat.beq (dg64 (upC c a i) k) (if k=i then 64-dg64 a i else dg64 a k+(dg64 a i-32)*offN c k i)
def chkE (c:List (List Int)) (V:List Nat):Bool:=Nat.ble 201 (szP c) || (Nat.beq V.length (szP c) && ((Nat.ble 25 (szP c) || zE3 (V.map fun a=>a % 64 ^ c.length)) && V.all fun a=>(List.range c.length).all fun i=>okUp c a i))
abbrev zCw (c:List (List Int)):Bool:=chkE c (elV c)
theorem zR4:(Fin.L1++Fin.L2++Fin.L3).all zCw=true:=by decide +kernel
theorem zRx:((Fin.L4.drop 0).take 37).all zCw=true:=by decide +kernel
theorem zRy:((Fin.L4.drop 37).take 37).all zCw=true:=by decide +kernel
theorem zRz:((Fin.L4.drop 74).take 37).all zCw=true:=by decide +kernel
theorem zR0:((Fin.L4.drop 111).take 37).all zCw=true:=by decide +kernel
theorem zR1:((Fin.L4.drop 148).take 37).all zCw=true:=by decide +kernel
theorem zR2:((Fin.L4.drop 185).take 37).all zCw=true:=by decide +kernel
theorem zR3:(Fin.L4.drop 222).all zCw=true:=by decide +kernel
theorem zNy:(Fin.L1++Fin.L2++Fin.L3++Fin.L4).all zCw=true:=by
 have h6:=zR3;have h5:=zAZ zR2 h6 rfl;have h4:=zAZ zR1 h5 rfl;have h3:=zAZ zR0 h4 rfl;have h2:=zAZ zRz h3 rfl;have h1:=zAZ zRy h2 rfl;have h0:=zAZ zRx h1 rfl;rw [List.drop_zero] at h0;rw [List.all_append,zR4,h0];rfl
structure CodeOk (c:List (List Int)):Prop where
 len:(elV c).length=szP c
 nd:szP c≤24→((elV c).map fun a=>a % 64 ^ c.length).Nodup
 up:∀a∈elV c,∀i,i<c.length→okUp c a i=true
theorem FinP.code {c:List (List Int)} (h:FinP c) (hs:szP c≤200):CodeOk c:=by
 have:=h.all zNy;unfold zCw chkE at this;rw [Bool.or_eq_true,Bool.and_eq_true,Bool.and_eq_true] at this;rcases this with h1 | ⟨h1,h2,h3⟩
 ·have:=Nat.le_of_ble_eq_true h1; omega
 ·refine ⟨Nat.eq_of_beq_eq_true h1,fun h24=>?_,fun a ha i hi=>?_⟩
  ·rw [Bool.or_eq_true] at h2;rcases h2 with h2 | h2
   ·have:=Nat.le_of_ble_eq_true h2; omega
   ·exact zEL h2
  ·exact List.all_eq_true.1 (List.all_eq_true.1 h3 a ha) i (List.mem_range.2 hi)
def zBx (n a:Nat):List Int:=(List.range n).map fun k=>(dg64 a k:Int)-32
theorem zH6 (n a:Nat):(zBx n a).length=n:=by unfold zBx; simp
theorem zB6 {n a k:Nat} (hk:k<n):num (zBx n a) k=(dg64 a k:Int)-32:=zB4 hk
theorem zKt {n:Nat} (hn:n≤4):zBx n (rhoC n)=List.replicate n 1:=by
 have:n=0∨n=1∨n=2∨n=3∨n=4:=by omega
 rcases this with rfl | rfl | rfl | rfl | rfl <;> decide +kernel
theorem zQS (a k:Nat):dg64 a k<64:=Nat.mod_lt _ (by omega)
theorem zPI {c:List (List Int)} (hc:CartanP c) {k i:Nat} (hk:k<c.length) (hi:i<c.length) (h:k≠i):(offN c k i:Int) = -(ent c k i):=by
 have:=hc.car.off k i hk hi h;unfold offN;rw [if_neg h];omega
theorem zQ8 {c:List (List Int)} {a i:Nat} (h:okUp c a i=true) (h1:33≤dg64 a i) {k:Nat} (hk:k<c.length):dg64 (upC c a i) k=if k=i then 64-dg64 a i else dg64 a k+(dg64 a i-32)*offN c k i:=by
 unfold okUp at h;rw [Bool.or_eq_true] at h;rcases h with h | h
 ·have:=Nat.le_of_ble_eq_true h; omega
 ·exact Nat.eq_of_beq_eq_true (List.all_eq_true.1 h k (List.mem_range.2 hk))
theorem zNk {c:List (List Int)} (hc:CartanP c) {a i m:Nat} (h:okUp c a i=true) (h1:33≤dg64 a i) (hi:i<c.length) (him:Im c (zBx c.length a) m) (hm:m≤30):zBx c.length (upC c a i)=refl c i (zBx c.length a):=by
 refine zCU (n:=c.length) (zH6 _ _) (by rw [zA5,zH6]) fun k hk=>?_;obtain ⟨hl,w,hw,hwl,hn⟩:=him;rw [zB6 hk,zQ8 h h1 hk,zBS hc hl hw (by omega) hn hi hk];unfold Cox.sW;rw [<-hn k hk,<-hn i hi,zB6 hk,zB6 hi];have hd:=zQS a i;by_cases e:k=i
 ·subst e;rw [if_pos rfl,hc.car.diag k hk];omega
 ·rw [if_neg e];have ho:=zPI hc hk hi e;rw [Int.natCast_add,Int.natCast_mul,ho,Int.natCast_sub (by omega),Int.mul_neg];have e2:((32:Nat):Int)=32:=rfl;rw [e2];omega
section
variable {c:List (List Int)}
theorem zJS (c:List (List Int)):∀(f m j:Nat),m<f→∀a∈zAi c (j+m),a∈zBE c f (zAi c j)
 | 0,_,_,h,_,_=>by omega
 | f+1,0,j,_,a,ha=>List.mem_append_left _ ha
 | f+1,m+1,j,h,a,ha=>by
  refine List.mem_append_right _ ?_;exact zJS c f m (j+1) (by omega) a (by rw [show j+1+m=j+(m+1) by omega]; exact ha)
theorem zEG (c:List (List Int)):∀(f j:Nat),∀a∈zBE c f (zAi c j),∃m,m<f∧a∈zAi c (j+m)
 | 0,_,a,ha=>by simp [zBE] at ha
 | f+1,j,a,ha=>by
  rcases List.mem_append.1 ha with ha | ha
  ·exact ⟨0,by omega,ha⟩
  ·obtain ⟨m,hm,h⟩:=zEG c f (j+1) a ha;exact ⟨m+1,by omega,by rw [show j+(m+1)=j+1+m by omega]; exact h⟩
theorem zFB {m a:Nat} (hm:m≤24) (ha:a∈zAi c m):a∈elV c:=zJS c 25 m 0 (by omega) a (by rw [Nat.zero_add]; exact ha)
theorem zEU (hc:CartanP c) (hk:CodeOk c):∀(m:Nat),m≤24→∀a∈zAi c m,Im c (zBx c.length a) m
 | 0,_,a,ha=>by
  rw [zAi,List.mem_singleton] at ha;subst ha;rw [zKt hc.le];exact ⟨by simp,[],fun i hi=>by simp at hi,rfl,fun k hk=>by simp [num,Cox.aW,Cox.one,hk]⟩
 | m+1,hm,b,hb=>by
  rw [zAi,List.mem_flatMap] at hb;obtain ⟨a,ha,hb⟩:=hb;have ih:=zEU hc hk m (by omega) a ha;unfold kids at hb;obtain ⟨i,hi,hb⟩:=List.mem_filterMap.1 hb;have hi:=List.mem_range.1 hi;split at hb
  ·rename_i hkd
   simp only [Option.some.injEq] at hb;subst hb;unfold kidB at hkd;rw [Bool.and_eq_true] at hkd;rw [zNk hc (hk.up a (zFB (by omega) ha) i hi) (Nat.le_of_ble_eq_true hkd.1) hi ih (by omega)];exact ih.step hc (by omega) hi
  ·cases hb
theorem Im.wt (h:FinP c) {v:List Int} {m:Nat} (him:Im c v m):Wt c (cors c) v:=by
 obtain ⟨hl,w,hw,_,hn⟩:=him;have h0:Wt c (cors c) (List.replicate c.length 1):=zPp h.cor (by simp) (fun x hx=>by have:=(List.mem_replicate.1 hx).2; omega);obtain ⟨h1,h2⟩:=zGt h.cor h.cart h0 hw;have e:v=actN c w (List.replicate c.length 1):=zCU hl h1.len fun k hk=>by
  rw [hn k hk,h2 k hk];exact Cox.aW_congr h.cart.car (fun j hj=>by simp [Cox.one,num,hj]) hw k hk
 rw [e]; exact h1
theorem zIJ (h:FinP c) {v:List Int} {m:Nat} (him:Im c v m):(nf c 30 v).length≤24:=by
 have hd:DomS c (cors c) v (negs c (cors c) v):=⟨him.wt h,rfl⟩;exact Nat.le_trans (zE0 (zOY h.cor h.cart) _ hd) (hd.le h.cor)
theorem zFA (h:FinP c) (hk:CodeOk c):∀(m:Nat) {v:List Int} {m':Nat},Im c v m'→m'≤29→(nf c 30 v).length=m→∃a∈zAi c m,zBx c.length a=v
 | 0,v,m',him,hm',hl=>by
  have hc:=h.cart;have e:zAJ v=none:=by
   cases e:zAJ v with
   | none=>rfl
   | some i =>
    obtain ⟨_,_,_,h2⟩:=zCC hc him (by omega) e;rw [h2] at hl; simp at hl
  exact ⟨rhoC c.length,by simp [zAi],by rw [zKt hc.le,him.ones hc e]⟩
 | m+1,v,m',him,hm',hl=>by
  have hc:=h.cart;cases e:zAJ v with
  | none=>rw [zC6 e] at hl; simp at hl
  | some i =>
   obtain ⟨m1,e1,h1,h2⟩:=zCC hc him (by omega) e;rw [h2] at hl;have hi:i<c.length:=by have:=zB1 e; rw [him.len] at this; exact this
   obtain ⟨a,ha,hv⟩:=zFA h hk m h1 (by omega) (by simpa using hl);have h24:=zIJ h him;rw [h2] at h24;have hm24:m+1≤24:=by simp at h24 hl; omega
   have hback:=him.turn_two hc (by omega) hi;have hnv:num v i<0:=zE5 e;have hda:33≤dg64 a i:=by
    have hneg:num (refl c i v) i = -(num v i):=by
     obtain ⟨hl',w,hw,hwl,hn⟩:=him;rw [zBS hc hl' hw (by omega) hn hi hi,Cox.sW_self hc.car hi,<-hn i hi]
    rw [<-hv,zB6 hi] at hneg;omega
   have ima:Im c (zBx c.length a) m1:=by rw [hv]; exact h1
   have hup:=zNk hc (hk.up a (zFB (by omega) ha) i hi) hda hi ima (by omega);rw [hv,hback] at hup;refine ⟨upC c a i,?_,hup⟩;rw [zAi,List.mem_flatMap];refine ⟨a,ha,?_⟩;unfold kids;refine List.mem_filterMap.2 ⟨i,List.mem_range.2 hi,?_⟩;rw [if_pos];unfold kidB;rw [Bool.and_eq_true];refine ⟨Nat.ble_eq_true_of_le hda,List.all_eq_true.2 fun k hk'=>Nat.ble_eq_true_of_le ?_⟩;have hki:=List.mem_range.1 hk';obtain ⟨x,hx,_,hpos⟩:=zBu e;have hkl:k<v.length:=by rw [him.len]; omega
   have h3:=hpos k hki v[k] (zTE hkl);have h4:=him.ne hc (List.getElem_mem hkl);have h5:num v k=v[k]:=by simp [num,hkl]
   have h6:(dg64 (upC c a i) k:Int)-32=v[k]:=by rw [<-h5,<-zB6 (n:=c.length) (by omega),hup]
   omega
structure Nf (c:List (List Int)) (x:List Int):Prop where
 lets:Lets c.length x
 le:x.length≤24
 nf:zAD c x=x
theorem Nf.im (hc:CartanP c) {x:List Int} (h:Nf c x):Im c (zAF c x) x.length:=zAa hc h.lets (by have:=h.le; omega)
theorem Nf.inj {x y:List Int} (hx:Nf c x) (hy:Nf c y) (e:zAF c x=zAF c y):x=y:=by
 rw [<-hx.nf,<-hy.nf];unfold zAD;rw [e]
theorem Im.nf (h:FinP c) {v:List Int} {m:Nat} (him:Im c v m) (hm:m≤29):Nf c (nf c 30 v):=by
 refine ⟨zFW (zDy h.cart) m ⟨him,by omega⟩,zIJ h him,?_⟩;unfold zAD;rw [zBQ h.cart m him hm]
theorem zDF {α β:Type} {f:α→β}:∀{l:List α},(∀x∈l,∀y∈l,f x=f y→x=y)→l.Nodup→(l.map f).Nodup:=fun {_} h hn=>zDm h hn
theorem zGO {α β:Type} {f:α→β}:∀{l:List α},(l.map f).Nodup→∀{x y:α},x∈l→y∈l→f x=f y→x=y
 | [],_,_,_,hx,_,_=>by cases hx
 | a::l,h,x,y,hx,hy,e=>by
  rw [List.map_cons,List.nodup_cons] at h;rcases List.mem_cons.1 hx with rfl | hx' <;> rcases List.mem_cons.1 hy with rfl | hy'
  ·rfl
  ·exact (h.1 (List.mem_map.2 ⟨y,hy',e.symm⟩)).elim
  ·exact (h.1 (List.mem_map.2 ⟨x,hx',e⟩)).elim
  ·exact zGO h.2 hx' hy' e
theorem zB3 (h:FinP c) (hs:szP c≤200) {l:List (List Int)} (hn:l.Nodup) (hl:∀x∈l,Nf c x):l.length≤szP c:=by
 have hk:=h.code hs;have h1:(l.map (zAF c)).Nodup:=zDF (fun x hx y hy e=>(hl x hx).inj (hl y hy) e) hn;have h2:∀v∈l.map (zAF c),v∈(elV c).map (zBx c.length):=fun v hv=>by
  obtain ⟨x,hx,rfl⟩:=List.mem_map.1 hv;have hx:=hl x hx;have hi:=hx.im h.cart;obtain ⟨a,ha,e⟩:=zFA h hk _ hi (by have:=hx.le; omega) rfl;have hle:=zIJ h hi;exact List.mem_map.2 ⟨a,zFB hle ha,e⟩
 have h3:=zGW h1 h2;rw [List.length_map,List.length_map,hk.len] at h3;exact h3
theorem zLZ (a:Nat):∀n,a % 64 ^ n=sumN (fun k=>dg64 a k*64 ^ k) n
 | 0=>by simp [sumN,Nat.mod_one]
 | n+1=>by
  have h:=zLZ a n;simp only [sumN];rw [<-h,Nat.pow_succ,Nat.mod_mul];unfold dg64;rw [Nat.mul_comm (64 ^ n)]
theorem zPA (h:FinP c) (hs:szP c≤24) {l:List (List Int)} (hn:l.Nodup) (hl:∀x,x∈l↔Nf c x):l.length=szP c:=by
 have hk:=h.code (by omega);refine Nat.le_antisymm (zB3 h (by omega) hn (fun x hx=>(hl x).1 hx)) ?_;have hV:((elV c).map (zBx c.length)).Nodup:=by
  have h1:=hk.nd hs;refine zDF (fun a ha b hb e=>?_) (List.Pairwise.of_map _ (fun a b hab e=>hab (by rw [e])) h1);have e2:a % 64 ^ c.length=b % 64 ^ c.length:=by
   rw [zLZ,zLZ];refine zF0 fun k hk=>?_;have:=zB6 (a:=a) hk;rw [e,zB6 hk] at this;rw [show dg64 a k=dg64 b k by omega]
  exact zGO h1 ha hb e2
 have h1:(((elV c).map (zBx c.length)).map (Proofs.YtlgcdacpjcnjgaaGreatDoor.nf c 30)).Nodup:=by
  refine zDF (fun v hv v' hv' e=>?_) hV;obtain ⟨a,ha,rfl⟩:=List.mem_map.1 hv;obtain ⟨b,hb,rfl⟩:=List.mem_map.1 hv';obtain ⟨m,hm,ha⟩:=zEG c 25 0 a ha;obtain ⟨m',hm',hb⟩:=zEG c 25 0 b hb;rw [Nat.zero_add] at ha hb;have i1:=zEU h.cart hk m (by omega) a ha;have i2:=zEU h.cart hk m' (by omega) b hb;rw [<-zBQ h.cart m i1 (by omega),<-zBQ h.cart m' i2 (by omega),e]
 have h2:∀x∈((elV c).map (zBx c.length)).map (Proofs.YtlgcdacpjcnjgaaGreatDoor.nf c 30),x∈l:=fun x hx=>by
  obtain ⟨v,hv,rfl⟩:=List.mem_map.1 hx;obtain ⟨a,ha,rfl⟩:=List.mem_map.1 hv;obtain ⟨m,hm,ha⟩:=zEG c 25 0 a ha;rw [Nat.zero_add] at ha;exact (hl _).2 ((zEU h.cart hk m (by omega) a ha).nf h (by omega))
 have h3:=zGW h1 h2;rw [List.length_map,List.length_map,hk.len] at h3;exact h3
end
end Go.Proofs.YtlgcdacpjcnjgaaGreatDoor
namespace Go.Proofs.YtlgcdacpjcnjgaaGreatDoor
open Go.RowKit
set_option maxRecDepth 20000
namespace Cox
variable {n:Nat} {c:Nat→Nat→Int}
theorem zPa (h:Car n c) {w:List Nat} (hw:Lets n w) {i:Nat} (hi:i<n) (hneg:aW c w one i<0):∃w',Lets n w'∧w'.length+1=w.length∧∀m,aW c (i::w) m=aW c w' m:=by
 have hr:=zAb hw;rcases coh h hr hi with hp | hn
 ·exfalso;rw [zEN h hw hi] at hneg;have:=(zCF hp.2).1;omega
 ·obtain ⟨w',a1,a2,a3⟩:=zCm h hi hr (fun y _ hy=>coh h hy hi) hn;refine ⟨w'.reverse,zAb a1,by simp at a2 ⊢; omega,fun m=>?_⟩;have e1:(i::w)=(w.reverse++[i]).reverse:=by simp
  have hl:Lets n (w.reverse++[i]):=fun j hj=>by
   rcases List.mem_append.1 hj with h | h
   ·exact hr j h
   ·simp at h; omega
  rw [e1];have b1:=zFQ h m a1;have b2:=zCW h (aW c w'.reverse m) hl;rw [a3.m,b1] at b2;exact b2
theorem zMT (h:Car n c):∀(N:Nat) (w:List Nat),w.length≤N→Lets n w→(∀k,k<n→aW c w one k=1)→∀m,aW c w m=m
 | _,[],_,_,_=>fun _=>rfl
 | 0,i::w,hN,_,_=>by simp at hN
 | N+1,i::w,hN,hw,h1=>by
  have hi:i<n:=hw i (by simp);have hw':Lets n w:=fun j hj=>hw j (by simp [hj]);have e:aW c w one i-aW c w one i*c i i=1:=h1 i hi;rw [h.diag i hi] at e;obtain ⟨w',a1,a2,a3⟩:=zPa h hw' hi (by omega);have h2:∀k,k<n→aW c w' one k=1:=fun k hk=>by rw [<-a3]; exact h1 k hk
  intro m;rw [a3];exact zMT h N w' (by simp at hN; omega) a1 h2 m
theorem same_img (h:Car n c) {w w':List Nat} (hw:Lets n w) (hw':Lets n w') (he:∀k,k<n→aW c w one k=aW c w' one k) (m:Nat→Int):aW c w m=aW c w' m:=by
 have h1:∀k,k<n→aW c (w'.reverse++w) one k=1:=fun k hk=>by
  rw [aW_append,aW_congr h he (zAb hw') k hk,zCW h one hw'];rfl
 have h2:=zMT h _ _ (zTI _) (lets_app (zAb hw') hw) h1 m;rw [aW_append] at h2;have h3:=zFQ h (aW c w m) hw';rw [h2] at h3;exact h3.symm
end Cox
section
variable {c:List (List Int)}
theorem zCQ {w:List Int} (h:Lets c.length w):Cox.Lets c.length (toN w):=fun i hi=>by
 obtain ⟨x,hx,rfl⟩:=List.mem_map.1 hi;have:=h x hx;omega
theorem zBf (hc:CartanP c):∀{w:List Int},Lets c.length w→w.length≤30→∀k,k<c.length→num (zAF c w) k=Cox.aW (ent c) (toN w) Cox.one k
 | [],_,_,k,hk=>by simp [zAF,act,num,Cox.aW,Cox.one,toN,hk]
 | i::w,hw,hl,k,hk=>by
  have hw':Lets c.length w:=fun x hx=>hw x (by simp [hx]);have hl':w.length≤29:=by simp at hl; omega
  have ih:=fun k hk=>zBf hc hw' (by omega) k hk;have h2:=hw i (by simp);have hlen:=(zAa hc hw' (by omega)).len;show num (refl c i.toNat (zAF c w)) k=Cox.sW (ent c) i.toNat (Cox.aW (ent c) (toN w) Cox.one) k;exact zBS hc hlen (zCQ hw') (by simp [toN]; omega) ih (by omega) hk
theorem zBn (hc:CartanP c) {w:List Int} (hw:Lets c.length w) (hl:w.length≤30):(zAF c w).length=c.length:=(zAa hc hw hl).len
theorem zCT {a b:List Int} {n:Nat} (ha:Lets n a) (hb:Lets n b):Lets n (a++b):=fun x hx=>by
 rcases List.mem_append.1 hx with h | h
 ·exact ha x h
 ·exact hb x h
theorem zK9 (a b:List Int):toN (a++b)=toN a++toN b:=by simp [toN]
theorem zMU (hc:CartanP c) {y y' z:List Int} (hy:Lets c.length y) (hy':Lets c.length y') (hz:Lets c.length z) (hl:y.length+z.length≤30) (hl':y'.length+z.length≤30) (he:zAF c y=zAF c y'):zAF c (y++z)=zAF c (y'++z):=by
 have n1:=zBf hc (zCT hy hz) (by simp; omega);have n2:=zBf hc (zCT hy' hz) (by simp; omega);have m1:=zBf hc hy (by omega);have m2:=zBf hc hy' (by omega);refine zCU (n:=c.length) (zBn hc (zCT hy hz) (by simp; omega)) (zBn hc (zCT hy' hz) (by simp; omega)) fun k hk=>?_;rw [n1 k hk,n2 k hk,zK9,zK9,Cox.aW_append,Cox.aW_append];exact congrFun (Cox.same_img hc.car (zCQ hy) (zCQ hy') (fun j hj=>by rw [<-m1 j hj,<-m2 j hj,he]) _) k
theorem zMV (z:List Int) {y y':List Int} (he:zAF c y=zAF c y'):zAF c (z++y)=zAF c (z++y'):=by
 have e:∀(z w:List Int),zAF c (z++w)=act c z (zAF c w):=fun z w=>by
  unfold zAF
  induction z with
  | nil=>rfl
  | cons i z ih=>exact congrArg (refl c i.toNat) ih
 rw [e,e,he]
end
end Go.Proofs.YtlgcdacpjcnjgaaGreatDoor
namespace Go.Proofs.YtlgcdacpjcnjgaaGreatDoor
open Go.RowKit
set_option maxRecDepth 20000
theorem zKF:∀x y:List Int,cmpL y x = -cmpL x y
 | [],[]=>rfl
 | [],_::_=>rfl
 | _::_,[]=>rfl
 | x::xs,y::ys=>by
  simp only [cmpL];rw [zKF xs ys];by_cases h1:x<y
  ·rw [if_pos h1,if_neg (by omega),if_pos h1]; rfl
  ·by_cases h2:y<x
   ·rw [if_neg h1,if_pos h2,if_pos h2,if_neg h1]
   ·rw [if_neg h1,if_neg h2,if_neg h2,if_neg h1]
theorem zKK (x y:List Int):cmpW y x = -cmpW x y:=by
 unfold cmpW;rw [zKF];by_cases h:x.length=y.length
 ·rw [if_pos h,if_pos h.symm]
 ·rw [if_neg h,if_neg (fun e=>h e.symm)];by_cases h2:x.length<y.length
  ·rw [if_pos h2,if_neg (by omega)]; rfl
  ·rw [if_neg h2,if_pos (by omega)]
theorem zIc:∀{x y z:List Int},x.length=y.length→y.length=z.length→cmpL x y<0→cmpL y z<0→cmpL x z<0
 | [],[],[],_,_,h,_=>by simp [cmpL] at h
 | [],[],_::_,_,h,_,_=>by simp at h
 | [],_::_,_,h,_,_,_=>by simp at h
 | _::_,[],_,h,_,_,_=>by simp at h
 | _::_,_::_,[],_,h,_,_=>by simp at h
 | x::xs,y::ys,z::zs,h1,h2,h3,h4=>by
  have ih:=zIc (x:=xs) (y:=ys) (z:=zs) (by simpa using h1) (by simpa using h2);simp only [cmpL] at *;by_cases a1:x<y
  ·by_cases a2:y<z
   ·rw [if_pos (by omega)]; omega
   ·rw [if_neg a2] at h4;by_cases a3:z<y
    ·rw [if_pos a3] at h4; omega
    ·rw [if_pos (by omega)]; omega
  ·rw [if_neg a1] at h3;by_cases a2:y<x
   ·rw [if_pos a2] at h3; omega
   ·rw [if_neg a2] at h3;by_cases a3:y<z
    ·rw [if_pos (by omega)]; omega
    ·rw [if_neg a3] at h4;by_cases a4:z<y
     ·rw [if_pos a4] at h4; omega
     ·rw [if_neg a4] at h4;rw [if_neg (by omega),if_neg (by omega)];exact ih h3 h4
theorem zIf {x y:List Int} (h:cmpW x y<0):x.length≤y.length:=by
 unfold cmpW at h;split at h
 ·omega
 ·split at h <;> omega
theorem zEo {x y:List Int} (h:x.length<y.length):cmpW x y<0:=by
 unfold cmpW;rw [if_neg (by omega),if_pos h]; omega
theorem zCk {x y z:List Int} (h1:cmpW x y<0) (h2:cmpW y z<0):cmpW x z<0:=by
 have l1:=zIf h1;have l2:=zIf h2;rcases Nat.lt_or_ge x.length z.length with h | h
 ·exact zEo h
 ·have e1:x.length=y.length:=by omega
  have e2:y.length=z.length:=by omega
  unfold cmpW at *;rw [if_pos e1] at h1;rw [if_pos e2] at h2;rw [if_pos (e1.trans e2)];exact zIc e1 e2 h1 h2
theorem zDT (x:List Int):¬cmpW x x<0:=by rw [zCR.2 rfl]; omega
theorem zED {x y:List Int} (h:x≠y):cmpW x y<0∨cmpW y x<0:=by
 have h1:cmpW x y≠0:=fun e=>h (zCR.1 e);rw [zKK x y];omega
abbrev SrtE (l:List (List Int)):Prop:=l.Pairwise fun a b=>cmpW a b<0
theorem SrtE.nodup {l:List (List Int)} (h:SrtE l):l.Nodup:=h.imp (fun {a b} hab e=>by subst e; exact zDT _ hab)
theorem zF6:∀{l m:List (List Int)},SrtE l→SrtE m→(∀x,x∈l↔x∈m)→l=m
 | [],[],_,_,_=>rfl
 | [],y::m,_,_,h=>by have:=(h y).2 (List.mem_cons_self ..); simp at this
 | x::l,[],_,_,h=>by have:=(h x).1 (List.mem_cons_self ..); simp at this
 | x::l,y::m,hl,hm,h=>by
  have h1:=List.pairwise_cons.1 hl;have h2:=List.pairwise_cons.1 hm;have e:x=y:=by
   rcases List.mem_cons.1 ((h x).1 (List.mem_cons_self ..)) with e | hx
   ·exact e
   ·rcases List.mem_cons.1 ((h y).2 (List.mem_cons_self ..)) with e | hy
    ·exact e.symm
    ·exact absurd (zCk (h1.1 y hy) (h2.1 x hx)) (zDT _)
  subst e;have hnl:x∉l:=fun hx=>zDT _ (h1.1 x hx);have hnm:x∉m:=fun hx=>zDT _ (h2.1 x hx);rw [zF6 h1.2 h2.2 (fun z=>?_)];constructor
  ·intro hz;rcases List.mem_cons.1 ((h z).1 (List.mem_cons_of_mem _ hz)) with rfl | h'
   ·exact absurd hz hnl
   ·exact h'
  ·intro hz;rcases List.mem_cons.1 ((h z).2 (List.mem_cons_of_mem _ hz)) with rfl | h'
   ·exact absurd hz hnm
   ·exact h'
def putE (v:List Int):List (List Int)→List (List Int)
 | []=>[v]
 | x::l=>if x=v then x::l else if cmpW v x<0 then v::x::l else x::putE v l
theorem zCO {v x:List Int}:∀{l:List (List Int)},x∈putE v l↔x=v∨x∈l
 | []=>by simp [putE]
 | y::l=>by
  unfold putE;by_cases h:y=v
  ·rw [if_pos h]; subst h; simp
  ·rw [if_neg h];by_cases h2:cmpW v y<0
   ·rw [if_pos h2]; simp
   ·rw [if_neg h2,List.mem_cons,zCO,List.mem_cons];constructor
    ·rintro (h | h | h)
     ·exact .inr (.inl h)
     ·exact .inl h
     ·exact .inr (.inr h)
    ·rintro (h | h | h)
     ·exact .inr (.inl h)
     ·exact .inl h
     ·exact .inr (.inr h)
theorem zF3 {v:List Int}:∀{l:List (List Int)},SrtE l→SrtE (putE v l)
 | [],_=>List.pairwise_singleton _ _
 | y::l,h=>by
  have hc:=List.pairwise_cons.1 h;unfold putE;by_cases e:y=v
  ·rw [if_pos e]; exact h
  ·rw [if_neg e];by_cases h2:cmpW v y<0
   ·rw [if_pos h2];refine List.pairwise_cons.2 ⟨fun x hx=>?_,h⟩;rcases List.mem_cons.1 hx with rfl | hx
    ·exact h2
    ·exact zCk h2 (hc.1 x hx)
   ·rw [if_neg h2];refine List.pairwise_cons.2 ⟨fun x hx=>?_,zF3 hc.2⟩;rcases zCO.1 hx with rfl | hx
    ·rcases zED e with h3 | h3
     ·exact h3
     ·exact absurd h3 h2
    ·exact hc.1 x hx
theorem zGh {v u:List Int}:∀{l:List (List Int)} {k:Nat},SrtE l→l[k]? = some u→cmpW u v<0→∀j,j≤k→(putE v l)[j]? = l[j]?
 | [],_,_,h,_,_,_=>by simp at h
 | x::l,k,hs,hu,huv,j,hj=>by
  have hc:=List.pairwise_cons.1 hs;have hx:cmpW x v<0:=by
   cases k with
   | zero=>simp only [List.getElem?_cons_zero,Option.some.injEq] at hu; subst hu; exact huv
   | succ k=>exact zCk (hc.1 u (zTF (by simpa using hu))) huv
  unfold putE;rw [if_neg (fun e=>by subst e; exact zDT _ hx),if_neg (fun h=>by rw [zKK x v] at h; omega)];cases j with
  | zero=>rfl
  | succ j =>
   cases k with
   | zero=>omega
   | succ k =>
    simp only [List.getElem?_cons_succ];exact zGh hc.2 (by simpa using hu) huv j (by omega)
def zCJ (q:List (List Int)):List (List Int):=q.foldl (fun l v=>putE v l) []
theorem zGi:∀{q l:List (List Int)},SrtE l→SrtE (q.foldl (fun l v=>putE v l) l)∧∀x,x∈q.foldl (fun l v=>putE v l) l↔x∈l∨x∈q
 | [],l,h=>⟨h,fun x=>by simp⟩
 | v::q,l,h=>by
  obtain ⟨a,b⟩:=zGi (q:=q) (zF3 (v:=v) h);refine ⟨a,fun x=>?_⟩;rw [List.foldl_cons,b,zCO,List.mem_cons];constructor
  ·rintro ((h | h) | h)
   ·exact .inr (.inl h)
   ·exact .inl h
   ·exact .inr (.inr h)
  ·rintro (h | h | h)
   ·exact .inl (.inr h)
   ·exact .inl (.inl h)
   ·exact .inr h
theorem zEQ (q:List (List Int)):SrtE (zCJ q)∧∀x,x∈zCJ q↔x∈q:=by
 obtain ⟨a,b⟩:=zGi (q:=q) (l:=[]) List.Pairwise.nil;exact ⟨a,fun x=>by rw [show zCJ q=q.foldl (fun l v=>putE v l) [] from rfl,b]; simp⟩
section
variable {c:List (List Int)}
def upW' (c:List (List Int)) (u:List Int) (i:Nat):List Int:=zAD c (u++[(i:Int)])
def zAt (c:List (List Int)) (u:List Int) (out:List (List Int)) (i:Nat):List (List Int):=if u.length<(upW' c u i).length∧upW' c u i∉out then putE (upW' c u i) out else out
def aRow (c:List (List Int)) (u:List Int) (out:List (List Int)):List (List Int):=(List.range c.length).foldl (zAt c u) out
def aBfs (c:List (List Int)):Nat→Nat→List (List Int)→List (List Int)
 | 0,_,out=>out
 |f+1,k,out=>match out[k]? with
  | none=>out
  | some u=>aBfs c f (k+1) (aRow c u out)
def elL (c:List (List Int)):List (List Int):=aBfs c 201 0 [[]]
theorem zDc (hc:CartanP c):Nf c []:=⟨fun x hx=>by simp at hx,by simp,by
 unfold zAD;refine zC6 ?_;exact (zAa hc (w:=[]) (fun x hx=>by simp at hx) (by simp)).zero⟩
theorem zPz (h:FinP c) {u:List Int} (hu:Nf c u) {i:Nat} (hi:i<c.length):Nf c (upW' c u i):=by
 have hl:Lets c.length (u++[(i:Int)]):=zCT hu.lets (fun x hx=>by simp at hx; omega);have hle:=hu.le;exact (zAa h.cart hl (by simp; omega)).nf h (by simp; omega)
theorem zTC (h:FinP c) {u:List Int} (hu:Nf c u) {i:Nat} (hi:i<c.length):(upW' c u i).length≤u.length+1:=(zM1 h.cart hu.lets hi (by have:=hu.le; omega)).1
structure AOk (c:List (List Int)) (out:List (List Int)):Prop where
 srt:SrtE out
 nf:∀x∈out,Nf c x
 nil:[]∈out
theorem zGu (h:FinP c) {u:List Int} (hu:Nf c u):∀(m:Nat) {out:List (List Int)} {k:Nat},m≤c.length→AOk c out→out[k]? = some u →
  AOk c ((List.range m).foldl (zAt c u) out)∧(∀j,j≤k→((List.range m).foldl (zAt c u) out)[j]? = out[j]?)∧(∀x∈out,x∈(List.range m).foldl (zAt c u) out) ∧
   ∀i,i<m→u.length<(upW' c u i).length→upW' c u i∈(List.range m).foldl (zAt c u) out
 | 0,out,k,_,ho,_=>⟨ho,fun _ _=>rfl,fun _ hx=>hx,fun i hi=>by omega⟩
 | m+1,out,k,hm,ho,hk=>by
  obtain ⟨h1,h2,h3,h4⟩:=zGu h hu m (by omega) ho hk;rw [List.range_succ,List.foldl_append];generalize (List.range m).foldl (zAt c u) out=o' at *;show AOk c (zAt c u o' m)∧(∀j,j≤k→(zAt c u o' m)[j]? = out[j]?)∧(∀x∈out,x∈zAt c u o' m)∧∀i,i<m+1→u.length<(upW' c u i).length→upW' c u i∈zAt c u o' m;have hmem:∀x∈o',x∈zAt c u o' m:=fun x hx=>by
   unfold zAt;split
   ·exact zCO.2 (.inr hx)
   ·exact hx
  refine ⟨?_,fun j hj=>?_,fun x hx=>hmem x (h3 x hx),fun i hi hl=>?_⟩
  ·unfold zAt;split
   ·refine ⟨zF3 h1.srt,fun x hx=>?_,zCO.2 (.inr h1.nil)⟩;rcases zCO.1 hx with rfl | hx
    ·exact zPz h hu (by omega)
    ·exact h1.nf x hx
   ·exact h1
  ·rw [<-h2 j hj];unfold zAt;split
   ·rename_i hcnd
    exact zGh h1.srt (by rw [h2 k (zTI _)]; exact hk) (zEo hcnd.1) j hj
   ·rfl
  ·rcases Nat.lt_or_ge i m with hlt | hge
   ·exact hmem _ (h4 i hlt hl)
   ·have:i=m:=by omega
    subst this;unfold zAt;by_cases hin:upW' c u i∈o'
    ·rw [if_neg (fun h=>h.2 hin)]; exact hin
    ·rw [if_pos ⟨hl,hin⟩]; exact zCO.2 (.inl rfl)
theorem zJ4 (h:FinP c) (hs:szP c≤200):∀(f k:Nat) {out:List (List Int)},201≤f+k→k≤out.length→AOk c out →
  (∀(j:Nat) (u:List Int),j<k→out[j]? = some u→∀i,i<c.length→u.length<(upW' c u i).length→upW' c u i∈out) →
  AOk c (aBfs c f k out)∧∀u∈aBfs c f k out,∀i,i<c.length→u.length<(upW' c u i).length→upW' c u i∈aBfs c f k out
 | 0,k,out,hf,hk,ho,_=>by
  have:=zB3 h hs ho.srt.nodup ho.nf;omega
 | f+1,k,out,hf,hk,ho,hd=>by
  unfold aBfs;cases e:out[k]? with
  | none =>
   show AOk c out∧∀u∈out,∀i,i<c.length→u.length<(upW' c u i).length→upW' c u i∈out;refine ⟨ho,fun u hu i hi hl=>?_⟩;obtain ⟨j,hj⟩:=List.getElem?_of_mem hu;have h1:=List.getElem?_eq_none_iff.1 e;exact hd j u (by have:=(zTG hj).1; omega) hj i hi hl
  | some u =>
   simp only;have hu:=ho.nf u (zTF e);obtain ⟨h1,h2,h3,h4⟩:=zGu h hu c.length (zTI _) ho e;have eR:(List.range c.length).foldl (zAt c u) out=aRow c u out:=rfl;rw [eR] at h1 h2 h3 h4;have hkl:=(zTG e).1;refine zJ4 h hs f (k+1) (by omega) ?_ h1 (fun j v hj hv i hi hl=>?_)
   ·have:=h2 k (zTI _);rw [e] at this;have:=(zTG this).1;show k+1≤_;omega
   ·rw [h2 j (by omega)] at hv;rcases Nat.lt_or_ge j k with hjk | hjk
    ·exact h3 _ (hd j v hjk hv i hi hl)
    ·have:j=k:=by omega
     subst this;rw [e] at hv;cases hv;exact h4 i hi hl
theorem zKk (h:FinP c) {x:List Int} (hx:Nf c x) (hne:x≠[]):∃y i,i<c.length∧Nf c y∧y.length+1=x.length∧upW' c y i=x:=by
 have hc:=h.cart;obtain ⟨y,z,rfl⟩:∃y z,x=y++[z]:=⟨x.dropLast,x.getLast hne,(List.dropLast_concat_getLast hne).symm⟩;have hly:Lets c.length y:=fun a ha=>hx.lets a (List.mem_append_left _ ha);have hz:=hx.lets z (List.mem_append_right _ (List.mem_singleton.2 rfl));have hle:=hx.le;simp only [List.length_append,List.length_singleton] at hle;have him:=zAa hc hly (by omega);have hny:=him.nf h (by omega);have e1:zAF c (Proofs.YtlgcdacpjcnjgaaGreatDoor.nf c 30 (zAF c y))=zAF c y:=zBQ hc _ him (by omega);have hyl:(Proofs.YtlgcdacpjcnjgaaGreatDoor.nf c 30 (zAF c y)).length≤y.length:=zCP hc hly (by omega);have hzz:((z.toNat:Nat):Int)=z:=by omega
 have e2:upW' c (Proofs.YtlgcdacpjcnjgaaGreatDoor.nf c 30 (zAF c y)) z.toNat=y++[z]:=by
  unfold upW';have hl1:Lets c.length [((z.toNat:Nat):Int)]:=fun a ha=>by simp at ha; omega
  have e3:=zMU hc hny.lets hly hl1 (by simp; omega) (by simp; omega) e1;unfold zAD;rw [e3,hzz];exact hx.nf
 refine ⟨_,z.toNat,by omega,hny,?_,e2⟩;have h3:=zTC h hny (i:=z.toNat) (by omega);rw [e2] at h3;simp only [List.length_append,List.length_singleton] at h3 ⊢;omega
theorem zDD (h:FinP c) (hs:szP c≤200):SrtE (elL c)∧∀x,x∈elL c↔Nf c x:=by
 have h0:AOk c [[]]:=⟨List.pairwise_singleton _ _,fun x hx=>by rw [List.mem_singleton] at hx; subst hx; exact zDc h.cart,List.mem_singleton.2 rfl⟩;obtain ⟨h1,h2⟩:=zJ4 h hs 201 0 (by omega) (Nat.zero_le _) h0 (fun j u hj=>by omega);refine ⟨h1.srt,fun x=>⟨h1.nf x,?_⟩⟩;have key:∀(m:Nat) (x:List Int),x.length=m→Nf c x→x∈elL c:=by
  intro m
  induction m with
  | zero=>intro x hx _; rw [List.eq_nil_of_length_eq_zero hx]; exact h1.nil
  | succ m ih =>
   intro x hx hn;obtain ⟨y,i,hi,hy,hyl,e⟩:=zKk h hn (fun e=>by rw [e] at hx; simp at hx);have:=h2 y (ih y (by omega) hy) i hi (by rw [e]; omega);rw [e] at this;exact this
 exact key _ x rfl
theorem zIi (h:FinP c) (hs:szP c≤200):(elL c).length≤szP c:=zB3 h hs (zDD h hs).1.nodup (fun x hx=>((zDD h hs).2 x).1 hx)
theorem zIj (h:FinP c) (hs:szP c≤24):(elL c).length=szP c:=zPA h hs (zDD h (by omega)).1.nodup (zDD h (by omega)).2
def zAn (c:List (List Int)) (v:List Int) (acc:List (List Int)) (i:Nat):List (List Int):=if num v i<0 then acc else if refl c i v∈acc then acc else acc++[refl c i v]
def zBh (c:List (List Int)) (acc:List (List Int)) (v:List Int):List (List Int):=(List.range c.length).foldl (zAn c v) acc
def zA9 (c:List (List Int)) (S:List (List Int)):List (List Int):=S.foldl (zBh c) []
def zFR (c:List (List Int)):Nat→List (List Int)→List (List Int)→List (List Int)
 | 0,out,_=>out
 | f+1,out,S=>if S.length=0 then out else if 200<out.length+(zA9 c S).length then out else zFR c f (out++zCJ ((zA9 c S).map (nf c 30))) (zA9 c S)
theorem zLF {v x:List Int} {acc:List (List Int)} {i:Nat}:x∈zAn c v acc i↔x∈acc∨(¬num v i<0∧x=refl c i v):=by
 unfold zAn;split
 ·rename_i h; exact ⟨fun h=>.inl h,fun h'=>h'.elim id (fun h''=>absurd h h''.1)⟩
 ·rename_i h
  split
  ·rename_i hin
   exact ⟨fun h=>.inl h,fun h'=>h'.elim id (fun h''=>by rw [h''.2]; exact hin)⟩
  ·rw [List.mem_append,List.mem_singleton];exact ⟨fun h'=>h'.elim .inl (fun e=>.inr ⟨h,e⟩),fun h'=>h'.elim .inl (fun e=>.inr e.2)⟩
theorem zL0 {v:List Int} {acc:List (List Int)} {i:Nat} (h:acc.Nodup):(zAn c v acc i).Nodup:=by
 unfold zAn;split
 ·exact h
 ·split
  ·exact h
  ·rename_i hin
   exact List.nodup_append.2 ⟨h,zJA _,fun a ha b hb e=>by rw [List.mem_singleton] at hb; subst hb; subst e; exact hin ha⟩
theorem zHI {v x:List Int}:∀{L:List Nat} {acc:List (List Int)},x∈L.foldl (zAn c v) acc↔x∈acc∨∃i∈L,¬num v i<0∧x=refl c i v
 | [],acc=>by simp
 | i::L,acc=>by
  rw [List.foldl_cons,zHI,zLF];constructor
  ·rintro ((h | h) | ⟨j,hj,h⟩)
   ·exact .inl h
   ·exact .inr ⟨i,List.mem_cons_self ..,h⟩
   ·exact .inr ⟨j,List.mem_cons_of_mem _ hj,h⟩
  ·rintro (h | ⟨j,hj,h⟩)
   ·exact .inl (.inl h)
   ·rcases List.mem_cons.1 hj with rfl | hj
    ·exact .inl (.inr h)
    ·exact .inr ⟨j,hj,h⟩
theorem zIQ {v:List Int}:∀{L:List Nat} {acc:List (List Int)},acc.Nodup→(L.foldl (zAn c v) acc).Nodup
 | [],_,h=>h
 | _::L,_,h=>zIQ (L:=L) (zL0 h)
theorem zEk {x:List Int}:∀{S acc:List (List Int)},x∈S.foldl (zBh c) acc↔x∈acc∨∃v∈S,∃i,i<c.length∧¬num v i<0∧x=refl c i v
 | [],acc=>by simp
 | v::S,acc=>by
  rw [List.foldl_cons,zEk];unfold zBh;rw [zHI];constructor
  ·rintro ((h | ⟨i,hi,h⟩) | ⟨u,hu,h⟩)
   ·exact .inl h
   ·exact .inr ⟨v,List.mem_cons_self ..,i,List.mem_range.1 hi,h⟩
   ·exact .inr ⟨u,List.mem_cons_of_mem _ hu,h⟩
  ·rintro (h | ⟨u,hu,i,hi,h⟩)
   ·exact .inl (.inl h)
   ·rcases List.mem_cons.1 hu with rfl | hu
    ·exact .inl (.inr ⟨i,List.mem_range.2 hi,h⟩)
    ·exact .inr ⟨u,hu,i,hi,h⟩
theorem zIO:∀{S acc:List (List Int)},acc.Nodup→(S.foldl (zBh c) acc).Nodup
 | [],_,h=>h
 | _::S,_,h=>zIO (S:=S) (zIQ h)
structure Shl (c:List (List Int)) (m:Nat) (S:List (List Int)):Prop where
 nd:S.Nodup
 im:∀v∈S,Im c v m∧(nf c 30 v).length=m
 all:∀(v:List Int) (m':Nat),Im c v m'→m'≤29→(nf c 30 v).length=m→v∈S
theorem Shl.start (hc:CartanP c):Shl c 0 [List.replicate c.length 1]:=by
 have h0:Im c (List.replicate c.length 1) 0:=zAa hc (w:=[]) (fun x hx=>by simp at hx) (by simp);refine ⟨zJA _,fun v hv=>?_,fun v m' hm hm' hl=>?_⟩
 ·rw [List.mem_singleton] at hv;subst hv;exact ⟨h0,by rw [zC6 h0.zero]; rfl⟩
 ·have e:zAJ v=none:=by
   cases e:zAJ v with
   | none=>rfl
   | some i =>
    obtain ⟨_,_,_,h2⟩:=zCC hc hm (by omega) e;rw [h2] at hl; simp at hl
  rw [hm.ones hc e];exact List.mem_singleton.2 rfl
theorem Shl.le (h:FinP c) {m:Nat} {S:List (List Int)} (hS:Shl c m S) (hne:S.length≠0):m≤24:=by
 obtain ⟨v,hv⟩:=List.exists_mem_of_ne_nil S (fun e=>hne (by rw [e]; rfl));obtain ⟨h1,h2⟩:=hS.im v hv;have:=zIJ h h1;omega
theorem Im.self_neg (hc:CartanP c) {v:List Int} {m:Nat} (h:Im c v m) (hm:m≤30) {i:Nat} (hi:i<c.length):num (refl c i v) i = -(num v i):=by
 obtain ⟨hl,w,hw,hwl,hn⟩:=h;rw [zBS hc hl hw (by omega) hn hi hi,Cox.sW_self hc.car hi,<-hn i hi]
theorem Im.num_ne2 (hc:CartanP c) {v:List Int} {m:Nat} (h:Im c v m) {i:Nat} (hi:i<c.length):num v i≠0:=by
 have hl:i<v.length:=by rw [h.len]; exact hi
 have:=h.ne hc (List.getElem_mem hl);simpa [num,hl] using this
theorem Shl.next (h:FinP c) {m:Nat} {S:List (List Int)} (hS:Shl c m S) (hm:m≤24):Shl c (m+1) (zA9 c S):=by
 have hc:=h.cart;refine ⟨zIO List.nodup_nil,fun y hy=>?_,fun v m' him hm' hl=>?_⟩
 ·rcases zEk.1 hy with hy | ⟨v,hv,i,hi,hpos,rfl⟩
  ·simp at hy
  ·obtain ⟨h1,h2⟩:=hS.im v hv;have h3:=h1.step hc (by omega) hi;refine ⟨h3,?_⟩;have hL:=zLb hc h3 (by omega);have hle:(nf c 30 (refl c i v)).length≤m+1:=zE0 (zDy hc) (m+1) ⟨h3,by omega⟩;have hneg:num (refl c i v) i<0:=by
    rw [h1.self_neg hc (by omega) hi];have:=h1.num_ne2 hc hi;omega
   have hil:i<(refl c i v).length:=by rw [h3.len]; exact hi
   have hnm:(refl c i v)[i]? = some (num (refl c i v) i):=by simp [num,hil]
   obtain ⟨m1,e1,h5⟩:=hL.back hc (by omega) hnm hneg;rw [h1.turn_two hc (by omega) hi] at h5;have h6:(nf c 30 v).length≤m1:=zE0 (zDy hc) m1 ⟨h5,by omega⟩;omega
 ·cases e:zAJ v with
  | none=>rw [zC6 e] at hl; simp at hl
  | some i =>
   obtain ⟨m1,e1,h1,h2⟩:=zCC hc him (by omega) e;rw [h2] at hl;have hi:i<c.length:=by have:=zB1 e; rw [him.len] at this; exact this
   have hin:=hS.all (refl c i v) m1 h1 (by omega) (by simpa using hl);refine zEk.2 (.inr ⟨_,hin,i,hi,?_,(him.turn_two hc (by omega) hi).symm⟩);rw [him.self_neg hc (by omega) hi];have:=zE5 e;omega
structure BOk (c:List (List Int)) (m:Nat) (out:List (List Int)):Prop where
 srt:SrtE out
 mem:∀x,x∈out↔Nf c x∧x.length≤m
theorem zE1 (h:FinP c) {m:Nat} {S:List (List Int)} (hS:Shl c m S) (hm:m≤24):(S.map (nf c 30)).Nodup∧∀x,x∈S.map (nf c 30)↔Nf c x∧x.length=m:=by
 have hc:=h.cart;refine ⟨zDF (fun v hv v' hv' e=>?_) hS.nd,fun x=>⟨fun hx=>?_,fun hx=>?_⟩⟩
 ·rw [<-zBQ hc m (hS.im v hv).1 (by omega),<-zBQ hc m (hS.im v' hv').1 (by omega),e]
 ·obtain ⟨v,hv,rfl⟩:=List.mem_map.1 hx;exact ⟨(hS.im v hv).1.nf h (by omega),(hS.im v hv).2⟩
 ·have him:=hx.1.im hc;have e:nf c 30 (zAF c x)=x:=hx.1.nf;exact List.mem_map.2 ⟨zAF c x,hS.all _ _ him (by have:=hx.1.le; omega) (by rw [e]; exact hx.2),e⟩
theorem zGX (h:FinP c):∀(d:Nat) {x:List Int} {m:Nat},Nf c x→x.length=m+d→∃y,Nf c y∧y.length=m
 | 0,x,m,hx,hl=>⟨x,hx,hl⟩
 | d+1,x,m,hx,hl=>by
  obtain ⟨y,_,_,hy,hyl,_⟩:=zKk h hx (fun e=>by rw [e] at hl; simp at hl);exact zGX h d hy (by omega)
theorem BOk.next (h:FinP c) {m:Nat} {out S:List (List Int)} (hB:BOk c m out) (hS:Shl c (m+1) S) (hm:m+1≤24∨S=[]):BOk c (m+1) (out++zCJ (S.map (nf c 30))):=by
 obtain ⟨p1,p2⟩:=zEQ (S.map (nf c 30));have key:∀x,x∈zCJ (S.map (nf c 30))→Nf c x∧x.length=m+1:=fun x hx=>by
  rcases hm with hm | hm
  ·exact ((zE1 h hS hm).2 x).1 ((p2 x).1 hx)
  ·subst hm; simp [zCJ] at hx
 refine ⟨List.pairwise_append.2 ⟨hB.srt,p1,fun a ha b hb=>zEo ?_⟩,fun x=>?_⟩
 ·have:=((hB.mem a).1 ha).2;have:=(key b hb).2;omega
 ·rw [List.mem_append,hB.mem];constructor
  ·rintro (⟨h1,h2⟩ | h1)
   ·exact ⟨h1,by omega⟩
   ·exact ⟨(key x h1).1,by rw [(key x h1).2]; exact zTI _⟩
  ·rintro ⟨h1,h2⟩;rcases Nat.lt_or_ge m x.length with hl | hl
   ·refine .inr ((p2 x).2 ?_);have hx1:x.length=m+1:=by omega
    have hle:=h1.le;exact ((zE1 h hS (by omega)).2 x).2 ⟨h1,hx1⟩
   ·exact .inl ⟨h1,hl⟩
theorem zKB (h:FinP c) (hs:szP c≤200):∀(f m:Nat) {out S:List (List Int)},26≤f+m→Shl c m S→BOk c m out→SrtE (zFR c f out S)∧∀x,x∈zFR c f out S↔Nf c x
 | 0,m,out,S,hf,hS,hB=>⟨hB.srt,fun x=>⟨fun hx=>((hB.mem x).1 hx).1,fun hx=>(hB.mem x).2 ⟨hx,by have:=hx.le; omega⟩⟩⟩
 | f+1,m,out,S,hf,hS,hB=>by
  unfold zFR;by_cases hz:S.length=0
  ·rw [if_pos hz];have hS0:S=[]:=List.eq_nil_of_length_eq_zero hz;refine ⟨hB.srt,fun x=>⟨fun hx=>((hB.mem x).1 hx).1,fun hx=>(hB.mem x).2 ⟨hx,?_⟩⟩⟩;rcases Nat.lt_or_ge m x.length with hl | hl
   ·exfalso;obtain ⟨y,hy,hyl⟩:=zGX h (x.length-m) (m:=m) hx (by omega);have e:nf c 30 (zAF c y)=y:=hy.nf;have:=hS.all _ _ (hy.im h.cart) (by have:=hy.le; omega) (by rw [e]; exact hyl);rw [hS0] at this; simp at this
   ·exact hl
  ·rw [if_neg hz];have hm:=hS.le h hz;have hN:=hS.next h hm;have hm1:m+1≤24∨zA9 c S=[]:=by
    by_cases he:(zA9 c S).length=0
    ·exact .inr (List.eq_nil_of_length_eq_zero he)
    ·exact .inl (hN.le h he)
   have hB1:=hB.next h hN hm1;have hcnt:=zB3 h hs hB1.srt.nodup (fun x hx=>((hB1.mem x).1 hx).1);have hpl:(zCJ ((zA9 c S).map (nf c 30))).length=(zA9 c S).length:=by
    have hnd:((zA9 c S).map (nf c 30)).Nodup:=by
     rcases hm1 with hm1 | hm1
     ·exact (zE1 h hN hm1).1
     ·rw [hm1]; exact List.nodup_nil
    obtain ⟨p1,p2⟩:=zEQ ((zA9 c S).map (nf c 30));rw [((List.perm_ext_iff_of_nodup p1.nodup hnd).2 p2).length_eq,List.length_map]
   rw [List.length_append,hpl] at hcnt;rw [if_neg (by omega)];exact zKB h hs f (m+1) (by omega) hN hB1
end
end Go.Proofs.YtlgcdacpjcnjgaaGreatDoor
namespace Go.Proofs.YtlgcdacpjcnjgaaGreatDoor
open Go.RowKit
set_option maxRecDepth 20000
def chkL (c:List (List Int)):Bool:=Nat.ble 201 (szP c) || Nat.beq (zBE c 16 [rhoC c.length]).length (szP c)
theorem zSC:(Fin.L1++Fin.L2++Fin.L3).all chkL=true:=by decide +kernel
theorem zR5:((Fin.L4.drop 0).take 37).all chkL=true:=by decide +kernel
theorem zR6:((Fin.L4.drop 37).take 37).all chkL=true:=by decide +kernel
theorem zR7:((Fin.L4.drop 74).take 37).all chkL=true:=by decide +kernel
theorem zR8:((Fin.L4.drop 111).take 37).all chkL=true:=by decide +kernel
theorem zR9:((Fin.L4.drop 148).take 37).all chkL=true:=by decide +kernel
theorem zSA:((Fin.L4.drop 185).take 37).all chkL=true:=by decide +kernel
theorem zSB:(Fin.L4.drop 222).all chkL=true:=by decide +kernel
theorem zOS:(Fin.L1++Fin.L2++Fin.L3++Fin.L4).all chkL=true:=by
 have h6:=zSB;have h5:=zAZ zSA h6 rfl;have h4:=zAZ zR9 h5 rfl;have h3:=zAZ zR8 h4 rfl;have h2:=zAZ zR7 h3 rfl;have h1:=zAZ zR6 h2 rfl;have h0:=zAZ zR5 h1 rfl;rw [List.drop_zero] at h0;rw [List.all_append,zSC,h0];rfl
section
variable {c:List (List Int)}
theorem zGl (c:List (List Int)) (b:Nat):∀(a j:Nat),zBE c (a+b) (zAi c j)=zBE c a (zAi c j)++zBE c b (zAi c (j+a))
 | 0,j=>by rw [Nat.zero_add]; rfl
 | a+1,j=>by
  rw [show a+1+b=(a+b)+1 by omega];show zAi c j++zBE c (a+b) (zAi c (j+1))=(zAi c j++zBE c a (zAi c (j+1)))++zBE c b (zAi c (j+(a+1)));rw [zGl c b a (j+1),List.append_assoc,show j+1+a=j+(a+1) by omega]
theorem zLh (h:FinP c) (hs:szP c≤200):∀m,16≤m→zAi c m=[]:=by
 have h1:=h.all zOS;unfold chkL at h1;rw [Bool.or_eq_true] at h1;have hl:(zBE c 16 (zAi c 0)).length=szP c:=by
  rcases h1 with h1 | h1
  ·have:=Nat.le_of_ble_eq_true h1; omega
  ·exact Nat.eq_of_beq_eq_true h1
 have hk:=(h.code hs).len;have e:elV c=zBE c (16+9) (zAi c 0):=rfl;rw [e,zGl,List.length_append,hl] at hk;have h16:zAi c 16=[]:=by
  have h9:zBE c 9 (zAi c (0+16))=zAi c 16++zBE c 8 (zAi c 17):=rfl;rw [h9,List.length_append] at hk;exact List.eq_nil_of_length_eq_zero (by omega)
 intro m hm;obtain ⟨d,rfl⟩:∃d,m=16+d:=⟨m-16,by omega⟩;clear hm
 induction d with
 | zero=>exact h16
 | succ d ih=>show (zAi c (16+d)).flatMap (kids c)=[]; rw [ih]; rfl
theorem zII (h:FinP c) (hs:szP c≤200) {x:List Int} (hx:Nf c x):x.length≤15:=by
 rcases Nat.lt_or_ge x.length 16 with h1 | h1
 ·omega
 ·exfalso;have hi:=hx.im h.cart;have hle:=hx.le;have e:nf c 30 (zAF c x)=x:=hx.nf;obtain ⟨a,ha,_⟩:=zFA h (h.code hs) _ hi (by omega) rfl;rw [e,zLh h hs _ h1] at ha;cases ha
end
end Go.Proofs.YtlgcdacpjcnjgaaGreatDoor
namespace Go.Proofs.YtlgcdacpjcnjgaaGreatDoor
open Go.RowKit
set_option maxRecDepth 20000
section
variable {c:List (List Int)}
structure BlQ (c:List (List Int)) (m:Nat) (out S:List (List Int)):Prop where
 shl:Shl c m S
 ok:BOk c m out
 le:m≤25
theorem BlQ.start (h:FinP c):BlQ c 0 [[]] [List.replicate c.length 1]:=⟨Shl.start h.cart,⟨List.pairwise_singleton _ _,fun x=>by
 rw [List.mem_singleton];constructor
 ·rintro rfl; exact ⟨zDc h.cart,by simp⟩
 ·rintro ⟨_,h2⟩; exact List.eq_nil_of_length_eq_zero (by omega)⟩,by omega⟩
theorem BlQ.fin (h:FinP c) (hs:szP c≤200) {m:Nat} {out S:List (List Int)} (hq:BlQ c m out S) (hz:S.length=0):out=elL c:=by
 obtain ⟨h1,h2⟩:=zKB h hs 60 m (by omega) hq.shl hq.ok;obtain ⟨h3,h4⟩:=zDD h hs;have e:zFR c 60 out S=out:=by unfold zFR; rw [if_pos hz]
 rw [e] at h1 h2;exact zF6 h1 h3 (fun x=>by rw [h2,h4])
theorem BlQ.out_few (h:FinP c) (hs:szP c≤200) {m:Nat} {out S:List (List Int)} (hq:BlQ c m out S):out.length≤200:=Nat.le_trans (zB3 h hs hq.ok.srt.nodup (fun x hx=>((hq.ok.mem x).1 hx).1)) hs
theorem BlQ.m_le (h:FinP c) {m:Nat} {out S:List (List Int)} (hq:BlQ c m out S) (hz:S.length≠0):m≤24:=hq.shl.le h hz
theorem BlQ.few (h:FinP c) (hs:szP c≤200) {m:Nat} {out S:List (List Int)} (hq:BlQ c m out S):S.length≤200:=by
 by_cases hz:S.length=0
 ·omega
 ·have hm:=hq.m_le h hz;obtain ⟨h1,h2⟩:=zE1 h hq.shl hm;have:=zB3 h hs h1 (fun x hx=>((h2 x).1 hx).1);rw [List.length_map] at this;omega
theorem BlQ.next (h:FinP c) (hs:szP c≤200) {m:Nat} {out S:List (List Int)} (hq:BlQ c m out S) (hz:S.length≠0) :
  BlQ c (m+1) (out++zCJ ((zA9 c S).map (nf c 30))) (zA9 c S)∧out.length+(zA9 c S).length≤200∧((zA9 c S).map (nf c 30)).Nodup:=by
 have hm:=hq.m_le h hz;have hN:=hq.shl.next h hm;have hm1:m+1≤24∨zA9 c S=[]:=by
  by_cases he:(zA9 c S).length=0
  ·exact .inr (List.eq_nil_of_length_eq_zero he)
  ·exact .inl (hN.le h he)
 have hB1:=hq.ok.next h hN hm1;have hcnt:=zB3 h hs hB1.srt.nodup (fun x hx=>((hB1.mem x).1 hx).1);have hnd:((zA9 c S).map (nf c 30)).Nodup:=by
  rcases hm1 with hm1 | hm1
  ·exact (zE1 h hN hm1).1
  ·rw [hm1]; exact List.nodup_nil
 have hpl:(zCJ ((zA9 c S).map (nf c 30))).length=(zA9 c S).length:=by
  obtain ⟨p1,p2⟩:=zEQ ((zA9 c S).map (nf c 30));rw [((List.perm_ext_iff_of_nodup p1.nodup hnd).2 p2).length_eq,List.length_map]
 rw [List.length_append,hpl] at hcnt;exact ⟨⟨hN,hB1,by omega⟩,by omega,hnd⟩
theorem zJZ {t r:List (List Int)} (hp:t.Perm r) (hs:t.Pairwise fun a b=>¬cmpW b a<0) (hr:r.Nodup):t=zCJ r:=by
 obtain ⟨p1,p2⟩:=zEQ r;have hn:=hp.nodup_iff.2 hr;have h1:SrtE t:=by
  have h2:t.Pairwise fun a b=>a≠b:=hn;refine (hs.and h2).imp fun {a b} hab=>?_;rcases zED hab.2 with h3 | h3
  ·exact h3
  ·exact absurd h3 hab.1
 exact zF6 h1 p1 (fun x=>by rw [p2,hp.mem_iff])
theorem zHJ (c:List (List Int)) (v:List Int) (acc:List (List Int)) (i:Nat):(List.range (i+1)).foldl (zAn c v) acc=zAn c v ((List.range i).foldl (zAn c v) acc) i:=by
 rw [List.range_succ,List.foldl_append]; rfl
theorem zIP {S:List (List Int)} {k:Nat} {x:List Int} (h:S[k]? = some x):(S.take (k+1)).foldl (zBh c) []=(List.range c.length).foldl (zAn c x) ((S.take k).foldl (zBh c) []):=by
 rw [zAP h,List.foldl_append]; rfl
theorem zL1 (v:List Int) (acc:List (List Int)) (i:Nat):(zAn c v acc i).length≤acc.length+1:=by
 unfold zAn;split
 ·omega
 ·split
  ·omega
  ·simp
theorem zFs (v:List Int) (acc:List (List Int)):∀i,((List.range i).foldl (zAn c v) acc).length≤acc.length+i
 | 0=>zTI _
 | i+1=>by
  rw [zHJ];have h1:=zFs v acc i;have h2:=zL1 (c:=c) v ((List.range i).foldl (zAn c v) acc) i;omega
theorem zKA (S:List (List Int)):∀k,k≤S.length→((S.take k).foldl (zBh c) []).length≤k*c.length
 | 0,_=>by simp
 | k+1,hk=>by
  obtain ⟨x,hx⟩:∃x,S[k]? = some x:=⟨S[k],zTE _⟩;rw [zIP hx];have h1:=zKA S k (by omega);have h2:=zFs (c:=c) x ((S.take k).foldl (zBh c) []) c.length;rw [Nat.add_mul,Nat.one_mul];omega
end
end Go.Proofs.YtlgcdacpjcnjgaaGreatDoor
