/- Lists of terms as functions of words; the products of the program and the reference by these functions. Plain. -/
import Derived.Test.YtlchafedbnihoaaGreatDoorJGHop
import Derived.Test.YtlchafedbnihoaaGreatDoorJGMulH
import Derived.Deep.RegionWith
namespace Go.Proofs.YtlchafedbnihoaaGreatDoor
open Go.RowKit
open Cox (Fw EqL Inv Rdd Eqv lop rop lops rops sh shN Ld Rd)
set_option maxRecDepth 20000
def tf (c:List (List Int)) (t:Trm):Fw:=fun w k=>if zAX c t.1 w then num t.2 k else 0
def fL (c:List (List Int)):List Trm→Fw
 | []=>fun _ _=>0
 | t::L=>fun w k=>tf c t w k+fL c L w k
theorem zGu (c:List (List Int)) (M:List Trm) (w:List Nat) (k:Nat):∀L:List Trm,fL c (L++M) w k=fL c L w k+fL c M w k
 | []=>by simp [fL]
 | t::L=>by
  show tf c t w k+fL c (L++M) w k=tf c t w k+fL c L w k+fL c M w k;rw [zGu c M w k L]; omega
theorem zNQ {c:List (List Int)} (t:Trm):Inv c.length (ent c) (tf c t):=fun w w' _ _ he=>funext fun k=>by
 have:zAX c t.1 w↔zAX c t.1 w':=by unfold zAX; rw [he.m]
 unfold tf;by_cases a:zAX c t.1 w
 ·rw [if_pos a,if_pos (this.1 a)]
 ·rw [if_neg a,if_neg (mt this.2 a)]
theorem zJg {c:List (List Int)}:∀L:List Trm,Inv c.length (ent c) (fL c L)
 | []=>fun _ _ _ _ _=>rfl
 | t::L=>fun w w' hw hw' he=>funext fun k=>by
  show tf c t w k+fL c L w k=tf c t w' k+fL c L w' k;rw [zNQ t w w' hw hw' he,zJg L w w' hw hw' he]
theorem zEQ {c:List (List Int)} (hc:CartanP c) {u:List Int} (hu:Nice c u) {w:List Nat} (hs:zAX c u w):∀{L:List Trm},(∀t∈L,Nice c t.1)→∀k,fL c L w k=cf L u k
 | [],_,_=>rfl
 | t::L,h,k=>by
  have ih:=zEQ hc hu hs (fun t ht=>h t (List.mem_cons_of_mem _ ht)) k;have ht:=h t (List.mem_cons_self ..);rw [zAm,<-ih];show tf c t w k+_=_;unfold tf;have e:zAX c t.1 w↔t.1=u:=by
   rw [<-ht.same hc hu];unfold zAX at hs ⊢;exact ⟨fun a k hk=>(a k hk).trans (hs k hk).symm,fun a k hk=>(a k hk).trans (hs k hk)⟩
  by_cases a:t.1=u
  ·rw [if_pos a,if_pos (e.2 a)]
  ·rw [if_neg a,if_neg (mt e.1 a)]
theorem zGv {c:List (List Int)} {w:List Nat}:∀{L:List Trm},(∀t∈L,¬zAX c t.1 w)→∀k,fL c L w k=0
 | [],_,_=>rfl
 | t::L,h,k=>by
  show tf c t w k+fL c L w k=0;rw [zGv (fun t ht=>h t (List.mem_cons_of_mem _ ht)) k];unfold tf;rw [if_neg (h t (List.mem_cons_self ..))]; rfl
def CgF (n:Nat) (f g:Fw):Prop:=∀w,Cox.Lets n w→∀k,wrap64 (f w k)=wrap64 (g w k)
theorem CgF.refl {n:Nat} (f:Fw):CgF n f f:=fun _ _ _=>rfl
theorem CgF.symm {n:Nat} {f g:Fw} (h:CgF n f g):CgF n g f:=fun w hw k=>(h w hw k).symm
theorem CgF.trans {n:Nat} {f g k:Fw} (h:CgF n f g) (h':CgF n g k):CgF n f k:=fun w hw j=>(h w hw j).trans (h' w hw j)
theorem CgF.of {n:Nat} {f g:Fw} (h:EqL n f g):CgF n f g:=fun w hw k=>by rw [h w hw]
theorem zFf {r r':Nat→Int} (h:∀k,wrap64 (r k)=wrap64 (r' k)):∀k,wrap64 (sh r k)=wrap64 (sh r' k)
 | 0=>rfl
 | k+1=>h k
theorem zJY {n:Nat} {c:Nat→Nat→Int} {s:Nat} (hs:s<n) {f g:Fw} (h:CgF n f g):CgF n (lop c s f) (lop c s g):=fun w hw k=>by
 have h1:=h w hw k;have h2:=zFf (h w hw) k;have h3:=h _ (Cox.lets_cons' hs hw) k;have h4:=zFf (h _ (Cox.lets_cons' hs hw)) k;unfold lop;by_cases a:Ld c s w
 ·rw [if_pos a,if_pos a]; unfold wrap64 at *; omega
 ·rw [if_neg a,if_neg a]; exact h4
theorem zMy {n:Nat} {c:Nat→Nat→Int} {s:Nat} (hs:s<n) {f g:Fw} (h:CgF n f g):CgF n (rop c s f) (rop c s g):=fun w hw k=>by
 have h1:=h w hw k;have h2:=zFf (h w hw) k;have h3:=h _ (Cox.lets_snoc hs hw) k;have h4:=zFf (h _ (Cox.lets_snoc hs hw)) k;unfold rop;by_cases a:Rd c s w
 ·rw [if_pos a,if_pos a]; unfold wrap64 at *; omega
 ·rw [if_neg a,if_neg a]; exact h4
theorem zH4 {n:Nat} {c:Nat→Nat→Int} {f g:Fw} (h:CgF n f g):∀{w:List Nat},Cox.Lets n w→CgF n (lops c w f) (lops c w g)
 | [],_=>h
 | _::_,hw=>zJY (Cox.lets_parts hw).1 (zH4 h (Cox.lets_parts hw).2)
theorem zH5 {n:Nat} {c:Nat→Nat→Int}:∀{w:List Nat} {f g:Fw},CgF n f g→Cox.Lets n w→CgF n (rops c w f) (rops c w g)
 | [],_,_,h,_=>h
 | t::w,f,g,h,hw=>show CgF n (rops c w (rop c t f)) (rops c w (rop c t g)) from zH5 (w:=w) (zMy (Cox.lets_parts hw).1 h) (Cox.lets_parts hw).2
theorem zCM:∀(n:Nat) (L:List Trm),L.length=n→∀s∈puts L,∃t∈L,s.1=t.1
 | 0,L,hn,s,hs=>by
  have:=List.eq_nil_of_length_eq_zero hn;subst this;simp [puts] at hs
 | n+1,L,hn,s,hs=>by
  rcases zBG L with rfl | ⟨a,t,rfl⟩
  ·simp at hn
  ·have ha:a.length=n:=by simp at hn; exact hn
   rw [zCG] at hs;rcases zDk hs with e | ⟨r,hr,e⟩
   ·exact ⟨t,by simp,e⟩
   ·obtain ⟨q,hq,e2⟩:=zCM n a ha r hr;exact ⟨q,List.mem_append_left _ hq,e.trans e2⟩
theorem zFr {c:List (List Int)} (hc:CartanP c) {D:List Trm} (hn:∀t∈D,Nice c t.1) (ho:∀t∈D,Trd t.2∧InI t.2):CgF c.length (fL c (puts D)) (fL c D):=fun w hw k=>by
 have hp:∀t∈puts D,Nice c t.1:=fun t ht=>by
  obtain ⟨s,hs,e⟩:=zCM _ D rfl t ht;rw [e]; exact hn s hs
 by_cases h:∃t∈D,zAX c t.1 w
 ·obtain ⟨t,ht,hs⟩:=h;rw [zEQ hc (hn t ht) hs hp,zEQ hc (hn t ht) hs hn,(zA1 _ D rfl ho).2]
 ·rw [zGv (L:=D) fun t ht hs=>h ⟨t,ht,hs⟩,zGv (L:=puts D) fun t ht hs=>by
   obtain ⟨s,hs2,e⟩:=zCM _ D rfl t ht;exact h ⟨s,hs2,by rw [<-e]; exact hs⟩]
theorem zND {c:List (List Int)} (hc:CartanP c) {g h:List Trm} (cg:Can g) (ch:Can h) (ng:∀t∈g,Nice c t.1) (nh:∀t∈h,Nice c t.1) (e:CgF c.length (fL c g) (fL c h)):g=h:=by
 refine zFo cg ch fun u k=>?_;by_cases hu:∃t,(t∈g∨t∈h)∧t.1=u
 ·obtain ⟨t,ht,rfl⟩:=hu;have hn:Nice c t.1:=by
   rcases ht with ht | ht
   ·exact ng t ht
   ·exact nh t ht
  have:=e (toN t.1) (zAu hn.lets) k;rwa [zEQ hc hn (fun _ _=>rfl) ng,zEQ hc hn (fun _ _=>rfl) nh] at this
 ·rw [zCr fun t ht e=>hu ⟨t,.inl ht,e⟩,zCr fun t ht e=>hu ⟨t,.inr ht,e⟩]
theorem zIV (p:List Int) (k:Nat):num (shI p) k=sh (num p) k:=by
 unfold shI;by_cases h:trim p=[]
 ·rw [if_pos h];have:∀k,num p k=0:=fun k=>by rw [<-zB7,h]; simp [num]
  rw [Cox.sh_zero' this]; simp [num]
 ·rw [if_neg h];cases k with
  | zero=>simp [num,sh]
  | succ k =>
   have e:num (0::trim p) (k+1)=num (trim p) k:=by simp [num]
   rw [e,zB7]; rfl
theorem zK9 (p q:List Int) (k:Nat):wrap64 (num (subP p q) k)=wrap64 (num p k-num q k):=by
 unfold subP;rw [zEx];have:num (negL q) k=wrap64 (- num q k):=by
  unfold negL num;rw [List.getElem?_map];cases q[k]? with
  | none=>simp [wrap64]
  | some x=>rfl
 rw [this];unfold wrap64; omega
theorem zMC (c:Nat→Nat→Int) (s:Nat) (f g:Fw):lop c s (fun w k=>f w k+g w k)=fun w k=>lop c s f w k+lop c s g w k:=funext fun w=>funext fun k=>by
 unfold lop;by_cases a:Ld c s w
 ·rw [if_pos a,if_pos a,if_pos a]; rcases k with _ | k <;> simp only [sh] <;> omega
 ·rw [if_neg a,if_neg a,if_neg a]; rcases k with _ | k <;> simp only [sh] <;> rfl
theorem zGh (p:Prop) [Decidable p] (r:Nat→Int) (k:Nat):sh (fun k=>if p then r k else 0) k=if p then sh r k else 0:=by
 cases k with
 | zero=>show 0=_; split <;> rfl
 | succ k=>rfl
theorem zNI {c:List (List Int)} (hc:CartanP c) {t:Trm} (h:Nice c t.1) (hl:t.1.length≤27) {i:Int} (hi:0≤i∧i<c.length):CgF c.length (fL c (letT c i t)) (lop (ent c) i.toNat (tf c t)):=fun w hw k=>by
 obtain ⟨h1,h2,h3⟩:=zGR hc h hl hi;have hs:i.toNat<c.length:=by omega
 have hx:=zAu h.lets;have fx:=Ld.flip hc.car hs hx;have fw:=Ld.flip hc.car hs hw;have e1:zAX c (zAQ c (i::t.1)) w↔zAX c t.1 (i.toNat::w):=by
  rw [zA5 hc h1.lets hw,zA5 hc h.lets (Cox.lets_cons' hs hw)];exact ⟨fun a=>((Eqv.dbl hc.car hs _).symm.trans (h2.symm.cons _)).trans (a.cons _),fun a=>h2.trans ((a.cons _).trans (Eqv.dbl hc.car hs w))⟩
 have d1:zAX c t.1 w→(Ld (ent c) i.toNat (toN t.1)↔Ld (ent c) i.toNat w):=fun a=>Ld.eqv _ ((zA5 hc h.lets hw).1 a);have d2:zAX c t.1 (i.toNat::w)→(Ld (ent c) i.toNat (toN t.1)↔¬Ld (ent c) i.toNat w):=fun a=>(Ld.eqv _ ((zA5 hc h.lets (Cox.lets_cons' hs hw)).1 a)).trans fw;unfold letT;by_cases d:Ld (ent c) i.toNat (toN t.1)
 ·rw [if_neg (fun x=>(h3.1 x) d)];show wrap64 (tf c (zAQ c (i::t.1),shI t.2) w k+(tf c (t.1,subP (shI t.2) t.2) w k+0))=_;by_cases a:Ld (ent c) i.toNat w
  ·have n2:¬zAX c t.1 (i.toNat::w):=fun x=>(d2 x).1 d a;rw [Cox.lop_yes a];show _=wrap64 (tf c t (i.toNat::w) k+(sh (fun k=>if zAX c t.1 w then num t.2 k else 0) k-tf c t w k));rw [zGh];unfold tf;simp only [e1,n2,if_false];by_cases b:zAX c t.1 w
   ·rw [if_pos b,if_pos b,if_pos b];have:=zK9 (shI t.2) t.2 k;rw [zIV] at this;simp only [Int.zero_add,Int.add_zero];exact this
   ·rw [if_neg b,if_neg b,if_neg b]; rfl
  ·have n1:¬zAX c t.1 w:=fun x=>a ((d1 x).1 d);rw [Cox.lop_no a];show _=wrap64 (sh (fun k=>if zAX c t.1 (i.toNat::w) then num t.2 k else 0) k);rw [zGh];unfold tf;simp only [e1,n1,if_false,zIV];congr 1;simp
 ·rw [if_pos (h3.2 d)];show wrap64 (tf c (zAQ c (i::t.1),t.2) w k+0)=_;by_cases a:Ld (ent c) i.toNat w
  ·have n1:¬zAX c t.1 w:=fun x=>d ((d1 x).2 a);rw [Cox.lop_yes a];show _=wrap64 (tf c t (i.toNat::w) k+(sh (fun k=>if zAX c t.1 w then num t.2 k else 0) k-tf c t w k));rw [zGh];unfold tf;simp only [e1,n1,if_false];congr 1
  ·have n2:¬zAX c t.1 (i.toNat::w):=fun x=>d ((d2 x).2 a);rw [Cox.lop_no a];show _=wrap64 (sh (fun k=>if zAX c t.1 (i.toNat::w) then num t.2 k else 0) k);rw [zGh];unfold tf;simp only [e1,n2,if_false];rfl
theorem zIJ {c:List (List Int)} (hc:CartanP c) {i:Int} (hi:0≤i∧i<c.length):∀{L:List Trm},(∀t∈L,Nice c t.1∧t.1.length≤27)→CgF c.length (fL c (letL c i L)) (lop (ent c) i.toNat (fL c L))
 | [],_=>fun w hw k=>by
  show wrap64 0=wrap64 (lop (ent c) i.toNat (fun _ _=>0) w k);unfold lop;rcases k with _ | k <;> simp [sh]
 | t::L,h=>fun w hw k=>by
  obtain ⟨h1,h2⟩:=h t (List.mem_cons_self ..);have e1:=zNI hc h1 h2 hi w hw k;have e2:=zIJ hc hi (L:=L) (fun s hs=>h s (List.mem_cons_of_mem _ hs)) w hw k;have e3:lop (ent c) i.toNat (fL c (t::L)) w k=lop (ent c) i.toNat (tf c t) w k+lop (ent c) i.toNat (fL c L) w k:=by
   show lop (ent c) i.toNat (fun w k=>tf c t w k+fL c L w k) w k=_;rw [zMC]
  show wrap64 (fL c (letT c i t++letL c i L) w k)=_;rw [zGu,e3];generalize lop (ent c) i.toNat (tf c t) w k=a1 at *;generalize lop (ent c) i.toNat (fL c L) w k=a2 at *;unfold wrap64 at *; omega
def pm:List Int→(Nat→Int)→(Nat→Int)
 | [],_=>fun _=>0
 | a::p,r=>fun k=>a*r k+sh (pm p r) k
theorem zFa (f g:Nat→Int):∀(p:List Int) (k:Nat),pm p (fun k=>f k+g k) k=pm p f k+pm p g k
 | [],_=>rfl
 | a::p,k=>by
  have h:=zFa f g p;show a*(f k+g k)+sh (pm p _) k=a*f k+sh (pm p f) k+(a*g k+sh (pm p g) k);rw [Int.mul_add];cases k with
  | zero=>simp only [sh]; omega
  | succ k=>simp only [sh]; rw [h k]; omega
theorem zKC (f g:Nat→Int):∀(p:List Int) (k:Nat),pm p (fun k=>f k-g k) k=pm p f k-pm p g k
 | [],_=>rfl
 | a::p,k=>by
  have h:=zKC f g p;show a*(f k-g k)+sh (pm p _) k=a*f k+sh (pm p f) k-(a*g k+sh (pm p g) k);rw [Int.mul_sub];cases k with
  | zero=>simp only [sh]; omega
  | succ k=>simp only [sh]; rw [h k]; omega
theorem zCE:∀(p:List Int) (k:Nat),pm p (fun _=>0) k=0
 | [],_=>rfl
 | a::p,k=>by
  show a*0+sh (pm p _) k=0;rw [Cox.sh_zero' (zCE p)]; simp
theorem zGg (r:Nat→Int):∀p:List Int,pm p (sh r)=sh (pm p r)
 | []=>by funext k; cases k <;> rfl
 | a::p=>by
  have h:=zGg r p;funext k;show a*sh r k+sh (pm p (sh r)) k=_;rw [h];rcases k with _ | k
  ·simp [sh]
  ·rfl
theorem zHR (p:List Int):∀(m:Nat) (r:Nat→Int),pm p (shN m r)=shN m (pm p r)
 | 0,_=>rfl
 | m+1,r=>by show pm p (shN m (sh r))=shN m (sh (pm p r)); rw [zHR p m,zGg]
theorem zJA {r r':Nat→Int} (h:∀k,wrap64 (r k)=wrap64 (r' k)):∀(p:List Int) (k:Nat),wrap64 (pm p r k)=wrap64 (pm p r' k)
 | [],_=>rfl
 | a::p,k=>by
  have h1:=zFf (zJA h p) k;obtain ⟨z,hz⟩:∃z,r k=r' k+18446744073709551616*z:=by
   have:=h k;unfold wrap64 at this;exact ⟨(r k-r' k) / 18446744073709551616,by omega⟩
  show wrap64 (a*r k+sh (pm p r) k)=wrap64 (a*r' k+sh (pm p r') k);rw [hz,Int.mul_add,Int.mul_left_comm];generalize a*z=y;generalize a*r' k=x;unfold wrap64 at *; omega
def un (r:Nat→Int):Prop:=r 0=1∧∀k,r (k+1)=0
theorem zLY {r:Nat→Int} (h:un r):∀(p:List Int) (k:Nat),pm p r k=num p k
 | [],_=>by simp [pm,num]
 | a::p,k=>by
  show a*r k+sh (pm p r) k=_;cases k with
  | zero=>rw [h.1]; simp [sh,num]
  | succ k=>rw [h.2]; show a*0+pm p r k=_; rw [zLY h p k]; simp [num]
theorem zEc (b:Int) (q:List Int):∀(p:List Int) (k:Nat),pm p (num (b::q)) k=b*num p k+sh (pm p (num q)) k
 | [],k=>by
  show (0:Int)=b*num [] k+sh (fun _=>0) k;rw [Cox.sh_zero' (fun _=>rfl)]; simp [num]
 | a::p,k=>by
  have h:=zEc b q p;show a*num (b::q) k+sh (pm p (num (b::q))) k=b*num (a::p) k+sh (fun k=>a*num q k+sh (pm p (num q)) k) k;cases k with
  | zero=>simp [num,sh,Int.mul_comm]
  | succ k =>
   have e1:num (b::q) (k+1)=num q k:=by simp [num]
   have e2:num (a::p) (k+1)=num p k:=by simp [num]
   show a*num (b::q) (k+1)+pm p (num (b::q)) k=b*num (a::p) (k+1)+(a*num q k+sh (pm p (num q)) k);rw [h k,e1,e2]; omega
theorem zF1:∀(p q:List Int) (k:Nat),pm p (num q) k=pm q (num p) k
 | p,[],k=>by
  show _=(0:Int);have:num ([]:List Int)=fun _=>0:=by funext k; simp [num]
  rw [this,zCE]
 | p,b::q,k=>by
  rw [zEc];show _=b*num p k+sh (pm q (num p)) k;have:pm p (num q)=pm q (num p):=funext fun k=>zF1 p q k;rw [this]
theorem zIZ (x:Int) (r:Nat→Int):∀(p:List Int) (k:Nat),pm (p++[x]) r k=pm p r k+x*shN p.length r k
 | [],k=>by
  show x*r k+sh (pm [] r) k=0+x*r k;rw [Cox.sh_zero' (r:=pm [] r) (fun _=>rfl)]; omega
 | a::p,k=>by
  have h:=zIZ x r p;have e:∀(m:Nat) (r:Nat→Int) (k:Nat),shN m (sh r) k=sh (shN m r) k:=fun m=>by
   induction m with
   | zero=>intros; rfl
   | succ m ih=>intro r k; exact ih (sh r) k
  show a*r k+sh (pm (p++[x]) r) k=a*r k+sh (pm p r) k+x*shN p.length (sh r) k;rw [e];cases k with
  | zero=>simp [sh]
  | succ k=>simp only [sh]; rw [h k]; omega
theorem zMX (q:List Int):∀(m k:Nat),shN m (num q) k=if m≤k then num q (k-m) else 0:=by
 have key:∀(m:Nat) (r:Nat→Int) (k:Nat),shN m r k=if m≤k then r (k-m) else 0:=fun m=>by
  induction m with
  | zero=>intro r k; simp [shN]
  | succ m ih =>
   intro r k;show shN m (sh r) k=_;rw [ih];by_cases h:m+1≤k
   ·rw [if_pos (by omega),if_pos h,show k-m=(k-(m+1))+1 by omega]; rfl
   ·rw [if_neg h];by_cases h2:m≤k
    ·rw [if_pos h2,show k-m=0 by omega]; rfl
    ·rw [if_neg h2]
 exact fun m k=>key m (num q) k
theorem zMJ (l:List Int) (i:Nat) (x:Int) (j:Nat):num (l.set i x) j=if i=j∧j<l.length then x else num l j:=by
 unfold num;rw [List.getElem?_set];by_cases h:i=j
 ·subst h;by_cases h2:i<l.length
  ·simp [h2]
  ·simp [h2]
 ·simp [h]
theorem zFT (a b:List Int) (i:Nat) (O:List Int) (hO:i+b.length≤O.length) (j:Nat):∀k,k≤b.length→wrap64 (num (zAl a b i O k) j)=wrap64 (num O j+if i≤j∧j<i+k then num a i*num b (j-i) else 0)
 | 0,_=>by
  show wrap64 (num O j)=_;rw [if_neg (by omega),Int.add_zero]
 | k+1,hk=>by
  have ih:=zFT a b i O hO j k (by omega);have hl:=zCL a b i O k;unfold zAl;rw [zMJ,hl];by_cases h:i+k=j
  ·rw [if_neg (by omega)] at ih;rw [if_pos ⟨h,by omega⟩,if_pos (by omega),h,show j-i=k by omega];generalize num a i*num b k=y;unfold wrap64 at *; omega
  ·rw [if_neg (by omega),ih];by_cases h2:i≤j∧j<i+k
   ·rw [if_pos h2,if_pos (by omega)]
   ·rw [if_neg h2,if_neg (by omega)]
theorem zGQ (a b:List Int) (hb:0<b.length) (j:Nat):∀i,i≤a.length→wrap64 (num (zAY a b i) j)=wrap64 (pm (a.take i) (num b) j)
 | 0,_=>by
  show wrap64 (num (List.replicate _ 0) j)=wrap64 0;unfold num;rw [List.getElem?_replicate];split <;> rfl
 | i+1,hi=>by
  have ih:=zGQ a b hb j i (by omega);have hl:=zBo a b i;have h1:=zFT a b i (zAY a b i) (by omega) j b.length (zNl _);have e:a.take (i+1)=a.take i++[num a i]:=by
   rw [List.take_add_one];unfold num;rw [zNh (show i<a.length by omega)]; rfl
  unfold zAY;rw [h1,e,zIZ,zMX,List.length_take,Nat.min_eq_left (by omega)];by_cases h2:i≤j
  ·rw [if_pos h2];by_cases h3:j<i+b.length
   ·rw [if_pos ⟨h2,h3⟩];generalize num a i*num b (j-i)=y;unfold wrap64 at *; omega
   ·rw [if_neg (fun x=>h3 x.2),zBD (l:=b) (by omega)];unfold wrap64 at *; omega
  ·rw [if_neg h2,if_neg (fun x=>h2 x.1)];unfold wrap64 at *; omega
theorem zK7 (a b:List Int) (h:a.length+b.length≤62) (k:Nat):wrap64 (num (mulP a b) k)=wrap64 (pm b (num a) k):=by
 rw [<-zF1 a b];unfold mulP;by_cases ha:a.length=0
 ·rw [if_pos (.inl ha),List.eq_nil_of_length_eq_zero ha]; simp [num,pm]
 ·by_cases hb:b.length=0
  ·rw [if_pos (.inr (.inl hb)),List.eq_nil_of_length_eq_zero hb];have:num ([]:List Int)=fun _=>0:=by funext k; simp [num]
   rw [this,zCE]
  ·rw [if_neg (by omega),zB7,zGQ a b (by omega) k _ (zNl _),List.take_length]
def LH (c:List (List Int)):List Trm→Fw→Fw
 | [],_=>fun _ _=>0
 | t::A,f=>fun w k=>pm t.2 (lops (ent c) (toN t.1) f w) k+LH c A f w k
structure Elt (c:List (List Int)) (L:List Trm):Prop where
 hk:Hk c L
 inn:∀t∈L,InI t.2
theorem Elt.car {c:List (List Int)} {L:List Trm} (h:Elt c L):CartanP c:=zBL.1 h.hk.car
theorem Elt.nice {c:List (List Int)} {L:List Trm} (h:Elt c L) {t:Trm} (ht:t∈L):Nice c t.1∧t.1.length≤15:=by
 have h1:=(zG7 (h.hk.wd t ht));have h2:=zBF h1.1;exact ⟨⟨h2.2.2,by omega,h1.2⟩,h2.2.1⟩
theorem Elt.can {c:List (List Int)} {L:List Trm} (h:Elt c L):Can L:=h.hk.can h.inn
theorem Elt.nil {c:List (List Int)} (h:isHk c []=true):Elt c []:=⟨zAO h,fun t ht=>by simp at ht⟩
theorem zNb {c:List (List Int)} {i:Int} {L:List Trm} (h:Elt c L) (hb:mlB c i L=true):Elt c (mlR c i L)∧(0≤i∧i<c.length)∧CgF c.length (fL c (mlR c i L)) (lop (ent c) i.toNat (fL c L)):=by
 have hb':=hb;unfold mlB at hb;simp only [Bool.and_eq_true] at hb;obtain ⟨h1,h2,h3⟩:=hb;have hi:=zKF h2;have hr:mlR c i L=puts (letL c i L):=by
  unfold mlR gd; rw [if_pos h1,if_pos h2,if_pos h3]
 have hin:=zFS (c:=c) (i:=i) h.inn;rw [hr] at hin ⊢;have ok:=zDN h.hk h2 h.inn;refine ⟨⟨zAO h3,hin⟩,hi,(zFr h.car (fun t ht=>?_) (fun t ht=>(ok t ht).2.2)).trans (zIJ h.car hi fun t ht=>⟨(h.nice ht).1,by have:=(h.nice ht).2; omega⟩)⟩;obtain ⟨s,hs,ht⟩:=zDf ht;have hn:=h.nice hs;have hst:=zGR h.car hn.1 (by omega) hi;unfold letT at ht;split at ht
 ·rw [List.mem_singleton] at ht; rw [ht]; exact hst.1
 ·rcases List.mem_cons.1 ht with rfl | ht
  ·exact hst.1
  ·rw [List.mem_singleton] at ht; rw [ht]; exact hn.1
theorem zHH {c:List (List Int)} {B:List Trm} (hB:Elt c B):∀{w:List Int} {x:List Trm},zAk c w B=some x→Elt c x∧Lets c.length w∧CgF c.length (fL c x) (lops (ent c) (toN w) (fL c B))
 | [],x,h=>by
  simp only [zAk,Option.some.injEq] at h;subst h;exact ⟨hB,fun x hx=>by simp at hx,CgF.refl _⟩
 | i::w,x,h=>by
  simp only [zAk] at h;split at h
  ·cases h
  ·rename_i g hg
   split at h
   ·rename_i hm
    simp only [Option.some.injEq] at h;subst h;obtain ⟨h1,h2,h3⟩:=zHH hB hg;obtain ⟨k1,k2,k3⟩:=zNb h1 hm;refine ⟨k1,zGM k2 h2,k3.trans (zJY (by omega) h3)⟩
   ·cases h
theorem zJh {c:List (List Int)} {p:List Int}:∀{L:List Trm},(∀t∈L,t.2.length+p.length≤62)→CgF c.length (fL c (scT p L)) (fun w k=>pm p (fL c L w) k)
 | [],_=>fun w hw k=>by
  show wrap64 0=wrap64 (pm p (fun _=>0) k);rw [zCE]
 | t::L,h=>fun w hw k=>by
  have e1:wrap64 (fL c (scT p L) w k)=wrap64 (pm p (fL c L w) k):=zJh (c:=c) (p:=p) (L:=L) (fun s hs=>h s (List.mem_cons_of_mem _ hs)) w hw k;have e2:=zK7 t.2 p (h t (List.mem_cons_self ..)) k;show wrap64 (tf c (t.1,mulP t.2 p) w k+fL c (scT p L) w k)=wrap64 (pm p (fun k=>tf c t w k+fL c L w k) k);rw [zFa];have e3:wrap64 (tf c (t.1,mulP t.2 p) w k)=wrap64 (pm p (tf c t w) k):=by
   show wrap64 (if zAX c t.1 w then num (mulP t.2 p) k else 0)=wrap64 (pm p (fun k=>if zAX c t.1 w then num t.2 k else 0) k);by_cases a:zAX c t.1 w
   ·simp only [if_pos a];exact e2
   ·simp only [if_neg a,zCE]
  unfold wrap64 at *; omega
theorem zNc {c:List (List Int)} {p:List Int} {L:List Trm} (h:Elt c L) (hb:scB c p L=true):(∀t∈scR c p L,InI t.2∧Trd t.2∧Nice c t.1)∧CgF c.length (fL c (scR c p L)) (fun w k=>pm p (fL c L w) k):=by
 have hr:scR c p L=puts (scT p L):=by unfold scR; rw [if_pos hb]
 unfold scB scOk at hb;simp only [Bool.and_eq_true,List.all_eq_true,decide_eq_true_eq] at hb;have hn:∀t∈scT p L,Nice c t.1:=fun t ht=>by
  obtain ⟨s,hs,rfl⟩:=List.mem_map.1 ht;exact (h.nice hs).1
 have hc:=(zA1 _ _ rfl (zEF p L)).1;rw [hr];refine ⟨fun t ht=>⟨hc.inn t ht,hc.tr t ht,?_⟩,(zFr h.car hn (zEF p L)).trans (zJh hb.2.2)⟩;obtain ⟨s,hs,e⟩:=zCM _ _ rfl t ht;rw [e]; exact hn s hs
theorem zNV {c:List (List Int)} {A B:List Trm} (hA:∀t∈A,InI t.2) (hB:∀t∈B,InI t.2) (hb:adB c A B=true):Elt c A∧Elt c B∧Elt c (adR c A B)∧CgF c.length (fL c (adR c A B)) (fun w k=>fL c A w k+fL c B w k):=by
 have hr:adR c A B=puts (A++B):=by
  unfold adB at hb;simp only [Bool.and_eq_true] at hb;unfold adR gd; rw [if_pos hb.1,if_pos hb.2.1,if_pos hb.2.2]
 have hin:=zE8 (c:=c) hA hB;unfold adB at hb;simp only [Bool.and_eq_true] at hb;have eA:Elt c A:=⟨zAO hb.1,hA⟩;have eB:Elt c B:=⟨zAO hb.2.1,hB⟩;rw [hr] at hin ⊢;refine ⟨eA,eB,⟨zAO hb.2.2,hin⟩,?_⟩;have h1:=zFr eA.car (D:=A++B) (fun t ht=>by
  rcases List.mem_append.1 ht with ht | ht
  ·exact (eA.nice ht).1
  ·exact (eB.nice ht).1) (fun t ht=>⟨((zFk eA.hk eB.hk).1 t ht).2.2,zFj hA hB t ht⟩)
 exact fun w hw k=>by rw [h1 w hw k,zGu]
theorem zJs {c:List (List Int)} {B:List Trm} (hB:Elt c B):∀{A s r:List Trm},(∀t∈A,Lets c.length t.1)→Elt c s→mhF c B A s=some r→Elt c r∧CgF c.length (fL c r) (fun w k=>fL c s w k+LH c A (fL c B) w k)
 | [],s,r,_,hs,h=>by
  simp only [mhF,Option.some.injEq] at h;subst h;exact ⟨hs,fun w hw k=>by show _=wrap64 (fL c s w k+0); rw [Int.add_zero]⟩
 | t::A,s,r,hA,hs,h=>by
  simp only [mhF] at h;split at h
  ·cases h
  ·rename_i s' e
   unfold mhT at e;split at e
   ·cases e
   ·rename_i x hx
    split at e
    ·rename_i hsc
     split at e
     ·rename_i had
      simp only [Option.some.injEq] at e;subst e;obtain ⟨x1,x2,x3⟩:=zHH hB hx;obtain ⟨y1,y2⟩:=zNc x1 hsc;obtain ⟨_,_,z3,z4⟩:=zNV hs.inn (fun t ht=>(y1 t ht).1) had;obtain ⟨r1,r2⟩:=zJs hB (fun t ht=>hA t (List.mem_cons_of_mem _ ht)) z3 h;refine ⟨r1,fun w hw k=>?_⟩;have a1:wrap64 (fL c r w k)=wrap64 (fL c (adR c s (scR c t.2 x)) w k+LH c A (fL c B) w k):=r2 w hw k;have a2:wrap64 (fL c (adR c s (scR c t.2 x)) w k)=wrap64 (fL c s w k+fL c (scR c t.2 x) w k):=z4 w hw k;have a3:wrap64 (fL c (scR c t.2 x) w k)=wrap64 (pm t.2 (fL c x w) k):=y2 w hw k;have a4:=zJA (x3 w hw) t.2 k;show _=wrap64 (fL c s w k+(pm t.2 (lops (ent c) (toN t.1) (fL c B) w) k+LH c A (fL c B) w k));unfold wrap64 at *; omega
     ·cases e
    ·cases e
theorem zCK {c:List (List Int)} {A B r:List Trm} (hA:∀t∈A,InI t.2) (hB:∀t∈B,InI t.2) (h:mhO c A B=some r):Elt c A∧Elt c B∧Elt c r∧CgF c.length (fL c r) (LH c A (fL c B)):=by
 unfold mhO at h;split at h
 ·rename_i h1
  split at h
  ·rename_i h2
   have eA:Elt c A:=⟨zAO h1,hA⟩;have eB:Elt c B:=⟨zAO h2,hB⟩;have e0:Elt c []:=⟨⟨eA.hk.car,by simp,fun t ht=>by simp at ht,fun t ht=>by simp at ht,fun t ht=>by simp at ht,fun t ht=>by simp at ht,List.Pairwise.nil⟩,fun t ht=>by simp at ht⟩;obtain ⟨r1,r2⟩:=zJs eB (fun t ht=>(eA.nice ht).1.lets) e0 h;refine ⟨eA,eB,r1,fun w hw k=>?_⟩;have:wrap64 (fL c r w k)=wrap64 (0+LH c A (fL c B) w k):=r2 w hw k;rwa [Int.zero_add] at this
  ·cases h
 ·cases h
open Classical in
noncomputable def dl (n:Nat) (c:Nat→Nat→Int) (x:List Nat):Fw:=fun w k=>if Eqv n c x w∧k=0 then 1 else 0
section
variable {n:Nat} {c:Nat→Nat→Int}
theorem zCs {x w:List Nat} (he:Eqv n c x w):dl n c x w=fun k=>if k=0 then 1 else 0:=funext fun k=>by
 unfold dl;by_cases hk:k=0
 ·rw [if_pos ⟨he,hk⟩,if_pos hk]
 ·rw [if_neg (fun x=>hk x.2),if_neg hk]
theorem zBt {x w:List Nat} (he:¬Eqv n c x w):dl n c x w=fun _=>0:=funext fun k=>if_neg fun x=>he x.1
theorem zDR:sh (fun _=>0)=fun _=>0:=funext fun k=>Cox.sh_zero' (fun _=>rfl) k
theorem zNB {x:List Nat}:Inv n c (dl n c x):=fun w w' _ _ he=>by
 by_cases h:Eqv n c x w
 ·rw [zCs h,zCs (h.trans he)]
 ·rw [zBt h,zBt (fun y=>h (y.trans he.symm))]
theorem zNH (h:Cox.Car n c) {s:Nat} (hs:s<n) {x:List Nat} (hx:Cox.Lets n x) (hd:¬Ld c s x):EqL n (lop c s (dl n c x)) (dl n c (s::x)):=fun w hw=>by
 have fw:=Cox.Ld.flip h hs hw;have e1:Eqv n c x (s::w)↔Eqv n c (s::x) w:=⟨fun a=>(a.cons s).trans (Eqv.dbl h hs w),fun a=>(Eqv.dbl h hs x).symm.trans (a.cons s)⟩;by_cases a:Ld c s w
 ·have n1:¬Eqv n c x w:=fun y=>hd ((Cox.Ld.eqv s y).2 a);rw [Cox.lop_yes a,zBt n1,zDR];by_cases b:Eqv n c (s::x) w
  ·rw [zCs b,zCs (e1.2 b)]; funext k; simp
  ·rw [zBt b,zBt (mt e1.1 b)]; rfl
 ·have n2:¬Eqv n c x (s::w):=fun y=>hd ((Cox.Ld.eqv s y).2 (fw.2 a));rw [Cox.lop_no a,zBt n2,zBt (mt e1.2 n2),zDR]
theorem zNL (h:Cox.Car n c) {t:Nat} (ht:t<n) {x:List Nat} (hx:Cox.Lets n x) (hd:¬Rd c t x):EqL n (rop c t (dl n c x)) (dl n c (x++[t])):=fun w hw=>by
 have fw:=Cox.Rd.flip h ht hw;have e1:Eqv n c x (w++[t])↔Eqv n c (x++[t]) w:=⟨fun a=>(a.snoc t).trans (Eqv.dbr h ht w),fun a=>(Eqv.dbr h ht x).symm.trans (a.snoc t)⟩;by_cases a:Rd c t w
 ·have n1:¬Eqv n c x w:=fun y=>hd ((Cox.Rd.eqv h hx hw t y).2 a);rw [Cox.rop_yes a,zBt n1,zDR];by_cases b:Eqv n c (x++[t]) w
  ·rw [zCs b,zCs (e1.2 b)]; funext k; simp
  ·rw [zBt b,zBt (mt e1.1 b)]; rfl
 ·have n2:¬Eqv n c x (w++[t]):=fun y=>hd ((Cox.Rd.eqv h hx (Cox.lets_snoc ht hw) t y).2 (fw.2 a));rw [Cox.rop_no a,zBt n2,zBt (mt e1.2 n2),zDR]
theorem zIL (h:Cox.Car n c):∀{x:List Nat},Rdd n c x→EqL n (lops c x (dl n c [])) (dl n c x)
 | [],_=>EqL.refl _
 | s::x,hr=>by
  obtain ⟨hs,hx,hd⟩:=hr.cons h;exact (Cox.lop_congr hs (zIL h hx)).trans (zNH h hs hx.1 hd)
theorem zIc (h:Cox.Car n c):∀(m:Nat) {x:List Nat},x.length=m→Rdd n c x→EqL n (rops c x (dl n c [])) (dl n c x)
 | m,x,hm,hr=>by
  rcases List.eq_nil_or_concat x with rfl | ⟨v,t,rfl⟩
  ·exact EqL.refl _
  ·rw [List.concat_eq_append] at hr hm ⊢;obtain ⟨ht,hv,hd⟩:=hr.snoc h;cases m with
   | zero=>simp at hm
   | succ m =>
    have ih:=zIc h m (x:=v) (by simpa using hm) hv;rw [Cox.rops_app];exact (Cox.rop_congr (c:=c) ht ih).trans (zNL h ht hv.1 hd)
theorem zNM (t:Nat) (p:List Int) (f:Fw):rop c t (fun w k=>pm p (f w) k)=fun w k=>pm p (rop c t f w) k:=funext fun w=>by
 by_cases a:Rd c t w
 ·rw [Cox.rop_yes a,Cox.rop_yes a];funext k;show pm p (f (w++[t])) k+(sh (pm p (f w)) k-pm p (f w) k)=_;rw [zFa,zKC,<-zGg]
 ·rw [Cox.rop_no a,Cox.rop_no a];funext k;show sh (pm p (f (w++[t]))) k=pm p (sh (f (w++[t]))) k;rw [zGg]
theorem zMT (t:Nat) (f g:Fw):rop c t (fun w k=>f w k+g w k)=fun w k=>rop c t f w k+rop c t g w k:=funext fun w=>funext fun k=>by
 unfold rop;by_cases a:Rd c t w
 ·rw [if_pos a,if_pos a,if_pos a]; rcases k with _ | k <;> simp only [sh] <;> omega
 ·rw [if_neg a,if_neg a,if_neg a]; rcases k with _ | k <;> simp only [sh] <;> rfl
theorem zMU (t:Nat):rop c t (fun _ _=>0)=fun _ _=>0:=funext fun w=>funext fun k=>by
 unfold rop;rw [zDR];split <;> rfl
theorem zId (p:List Int):∀(x:List Nat) (f:Fw),rops c x (fun w k=>pm p (f w) k)=fun w k=>pm p (rops c x f w) k
 | [],_=>rfl
 | t::x,f=>by show rops c x (rop c t _)=_; rw [zNM,zId p x]; rfl
theorem zHY:∀(x:List Nat) (f g:Fw),rops c x (fun w k=>f w k+g w k)=fun w k=>rops c x f w k+rops c x g w k
 | [],_,_=>rfl
 | t::x,f,g=>by show rops c x (rop c t _)=_; rw [zMT,zHY x]; rfl
theorem zGU:∀x:List Nat,rops c x (fun _ _=>0)=fun _ _=>0
 | []=>rfl
 | t::x=>by show rops c x (rop c t _)=_; rw [zMU,zGU x]
end
theorem zEf {c:List (List Int)} {f g:Fw} (h:EqL c.length f g):∀{A:List Trm},(∀t∈A,Lets c.length t.1)→EqL c.length (LH c A f) (LH c A g)
 | [],_=>EqL.refl _
 | t::A,hA=>fun w hw=>by
  have h1:=zEf h (A:=A) (fun s hs=>hA s (List.mem_cons_of_mem _ hs)) w hw;have h2:=Cox.lops_congr (c:=ent c) h (zAu (hA t (List.mem_cons_self ..))) w hw;funext k;show pm t.2 (lops (ent c) (toN t.1) f w) k+LH c A f w k=pm t.2 (lops (ent c) (toN t.1) g w) k+LH c A g w k;rw [h1,h2]
theorem zLP {c:List (List Int)} {f g:Fw} (h:CgF c.length f g):∀{A:List Trm},(∀t∈A,Lets c.length t.1)→CgF c.length (LH c A f) (LH c A g)
 | [],_=>CgF.refl _
 | t::A,hA=>fun w hw k=>by
  have h1:=zLP h (A:=A) (fun s hs=>hA s (List.mem_cons_of_mem _ hs)) w hw k;have h2:=zJA (zH4 (c:=ent c) h (zAu (hA t (List.mem_cons_self ..))) w hw) t.2 k;show wrap64 (pm t.2 (lops (ent c) (toN t.1) f w) k+LH c A f w k)=wrap64 (pm t.2 (lops (ent c) (toN t.1) g w) k+LH c A g w k);unfold wrap64 at *; omega
theorem zEK {c:List (List Int)} (hc:CartanP c) {x:List Nat} (hx:Cox.Lets c.length x) {f:Fw} (hf:Inv c.length (ent c) f):∀{A:List Trm},(∀t∈A,Lets c.length t.1)→EqL c.length (LH c A (rops (ent c) x f)) (rops (ent c) x (LH c A f))
 | [],_=>fun w hw=>by
  show _=rops (ent c) x (fun _ _=>0) w;rw [zGU]; rfl
 | t::A,hA=>fun w hw=>by
  have h1:=zEK hc hx hf (A:=A) (fun s hs=>hA s (List.mem_cons_of_mem _ hs)) w hw;have h2:=Cox.lops_rops hc.car hf (zAu (hA t (List.mem_cons_self ..))) hx w hw;funext k;show pm t.2 (lops (ent c) (toN t.1) (rops (ent c) x f) w) k+LH c A (rops (ent c) x f) w k=rops (ent c) x (fun w k=>pm t.2 (lops (ent c) (toN t.1) f w) k+LH c A f w k) w k;rw [h1,h2,zHY,zId]
theorem zNf:un (fun k=>if k=0 then 1 else 0):=⟨rfl,fun _=>rfl⟩
theorem zLX {c:List (List Int)} (hc:CartanP c) {t:Trm} (h:Lets c.length t.1) {w:List Nat} (hw:Cox.Lets c.length w) (k:Nat):pm t.2 (dl c.length (ent c) (toN t.1) w) k=tf c t w k:=by
 unfold tf;by_cases a:zAX c t.1 w
 ·rw [if_pos a,zCs ((zA5 hc h hw).1 a),zLY zNf]
 ·rw [if_neg a,zBt (fun e=>a ((zA5 hc h hw).2 e)),zCE]
theorem zIu {c:List (List Int)} (hc:CartanP c):∀{A:List Trm},(∀t∈A,Nice c t.1)→EqL c.length (LH c A (dl c.length (ent c) [])) (fL c A)
 | [],_=>EqL.refl _
 | t::A,hA=>fun w hw=>by
  have h1:=zIu hc (A:=A) (fun s hs=>hA s (List.mem_cons_of_mem _ hs)) w hw;have h2:=hA t (List.mem_cons_self ..);funext k;show pm t.2 (lops (ent c) (toN t.1) (dl c.length (ent c) []) w) k+LH c A (dl c.length (ent c) []) w k=tf c t w k+fL c A w k;rw [h1,zIL hc.car (h2.red hc) w hw,zLX hc h2.lets hw]
theorem zNE {c:List (List Int)} (hc:CartanP c) {x:List Int} (h:Nice c x):EqL c.length (fL c [(x,[1])]) (rops (ent c) (toN x) (dl c.length (ent c) [])):=fun w hw=>by
 rw [zIc hc.car _ rfl (h.red hc) w hw];funext k;have e:=zLX hc (t:=(x,[1])) h.lets hw k;show tf c (x,[1]) w k+0=dl c.length (ent c) (toN x) w k;rw [<-e];show (1*dl c.length (ent c) (toN x) w k+sh (fun _=>0) k)+0=dl c.length (ent c) (toN x) w k;have z:sh (fun _=>(0:Int)) k=0:=Cox.sh_zero' (fun _=>rfl) k;rw [z]; omega
theorem zK0 {c:List (List Int)} {A B Y Q P R:List Trm} {x:List Int} (hA:∀t∈A,InI t.2) (hB:∀t∈B,InI t.2) (hx:Nice c x)
  (hY:mhO c A B=some Y) (hP:mhO c Y [(x,[1])]=some P) (hQ:mhO c B [(x,[1])]=some Q) (hR:mhO c A Q=some R):P=R:=by
 obtain ⟨eA,eB,eY,gY⟩:=zCK hA hB hY;have hU:∀t∈[(x,([1]:List Int))],InI t.2:=fun t ht=>by
  rw [List.mem_singleton] at ht; subst ht;intro y hy; simp at hy; subst hy; omega
 obtain ⟨_,_,eP,gP⟩:=zCK eY.inn hU hP;obtain ⟨_,_,eQ,gQ⟩:=zCK hB hU hQ;obtain ⟨_,_,eR,gR⟩:=zCK hA eQ.inn hR;have hc:=eA.car;have lA:∀t∈A,Lets c.length t.1:=fun t ht=>(eA.nice ht).1.lets;have lB:∀t∈B,Lets c.length t.1:=fun t ht=>(eB.nice ht).1.lets;have lY:∀t∈Y,Lets c.length t.1:=fun t ht=>(eY.nice ht).1.lets;have hxl:=zAu hx.lets;have u1:=zNE hc hx;have d:Inv c.length (ent c) (dl c.length (ent c) []):=zNB;refine zND hc eP.can eR.can (fun t ht=>(eP.nice ht).1) (fun t ht=>(eR.nice ht).1) ?_;have s1:EqL c.length (LH c Y (fL c [(x,[1])])) (rops (ent c) (toN x) (fL c Y)) :=
  (zEf u1 lY).trans ((zEK hc hxl d lY).trans (Cox.rops_congr (zIu hc fun t ht=>(eY.nice ht).1) hxl))
 have s2:EqL c.length (LH c B (fL c [(x,[1])])) (rops (ent c) (toN x) (fL c B)) :=
  (zEf u1 lB).trans ((zEK hc hxl d lB).trans (Cox.rops_congr (zIu hc fun t ht=>(eB.nice ht).1) hxl))
 have s3:CgF c.length (fL c P) (rops (ent c) (toN x) (LH c A (fL c B))):=gP.trans ((CgF.of s1).trans (zH5 gY hxl));have s4:CgF c.length (fL c R) (LH c A (rops (ent c) (toN x) (fL c B))):=gR.trans (zLP (gQ.trans (CgF.of s2)) lA);exact s3.trans ((CgF.of (zEK hc hxl (zJg B) lA).symm).trans s4.symm)
theorem zJM {c:List (List Int)} (hc:CartanP c) {f:Fw}:∀{A:List Trm},(∀t∈A,Nice c t.1)→∀k,LH c A f [] k=(A.map fun t=>pm t.2 (shN t.1.length (f (toN t.1).reverse)) k).sum
 | [],_,k=>rfl
 | t::A,hA,k=>by
  have h1:=zJM hc (f:=f) (A:=A) (fun s hs=>hA s (List.mem_cons_of_mem _ hs)) k;have h2:=Cox.lops_nil hc.car _ rfl ((hA t (List.mem_cons_self ..)).red hc) (f:=f);show pm t.2 (lops (ent c) (toN t.1) f []) k+LH c A f [] k=_;rw [h1,h2,List.map_cons,List.sum_cons];simp [toN]
def prt (c:List (List Int)) (k:Nat) (t s:Trm):Int:=if zAX c s.1 (toN t.1).reverse then pm t.2 (shN t.1.length (num s.2)) k else 0
theorem zE1:∀(m:Nat) (k:Nat),shN m (fun _=>0) k=0
 | 0,_=>rfl
 | m+1,k=>by show shN m (sh (fun _=>0)) k=0; rw [zDR]; exact zE1 m k
theorem zIj (f g:Nat→Int):∀(m:Nat) (f g:Nat→Int) (k:Nat),shN m (fun k=>f k+g k) k=shN m f k+shN m g k
 | 0,_,_,_=>rfl
 | m+1,f,g,k=>by
  show shN m (sh (fun k=>f k+g k)) k=shN m (sh f) k+shN m (sh g) k;rw [<-zIj f g m (sh f) (sh g)];congr 1;funext k;cases k with
  | zero=>rfl
  | succ k=>rfl
theorem zKB {c:List (List Int)} (t:Trm) (k:Nat):∀B:List Trm,pm t.2 (shN t.1.length (fL c B (toN t.1).reverse)) k=(B.map fun s=>prt c k t s).sum
 | []=>by
  show pm t.2 (shN _ (fun _=>0)) k=0;rw [show shN t.1.length (fun _=>0)=fun _=>0 from funext (zE1 _),zCE]
 | s::B=>by
  have ih:=zKB (c:=c) t k B;have e:shN t.1.length (fL c (s::B) (toN t.1).reverse)=fun k=>shN t.1.length (tf c s (toN t.1).reverse) k+shN t.1.length (fL c B (toN t.1).reverse) k:=funext fun k=>by
   rw [<-zIj (fun _=>0) (fun _=>0)]; rfl
  rw [e,zFa,ih,List.map_cons,List.sum_cons];congr 1;unfold prt;by_cases a:zAX c s.1 (toN t.1).reverse
  ·rw [if_pos a];have:tf c s (toN t.1).reverse=num s.2:=funext fun k=>by unfold tf; rw [if_pos a]
   rw [this]
  ·rw [if_neg a];have:tf c s (toN t.1).reverse=fun _=>0:=funext fun k=>by unfold tf; rw [if_neg a]
   rw [this,show shN t.1.length (fun _=>0)=fun _=>0 from funext (zE1 _),zCE]
theorem zLC {c:List (List Int)} (hc:CartanP c) {t s:Trm} (ht:Nice c t.1) (hs:Nice c s.1) (k:Nat):prt c k t s=prt c k s t:=by
 have h1:zAX c s.1 (toN t.1).reverse↔zAX c t.1 (toN s.1).reverse:=by
  rw [zA5 hc hs.lets (Cox.lets_rev (zAu ht.lets)),zA5 hc ht.lets (Cox.lets_rev (zAu hs.lets))];constructor
  ·intro a;have:=a.rev hc.car (zAu hs.lets) (Cox.lets_rev (zAu ht.lets));rw [List.reverse_reverse] at this;exact this.symm
  ·intro a;have:=a.rev hc.car (zAu ht.lets) (Cox.lets_rev (zAu hs.lets));rw [List.reverse_reverse] at this;exact this.symm
 unfold prt;by_cases a:zAX c s.1 (toN t.1).reverse
 ·rw [if_pos a,if_pos (h1.1 a)];have hl:s.1.length=t.1.length:=by
   have e:=(zA5 hc hs.lets (Cox.lets_rev (zAu ht.lets))).1 a;have:=(hs.red hc).len ((ht.red hc).rev hc.car) e;simpa [toN] using this
  rw [hl,zHR,zHR];congr 1;funext k;exact zF1 _ _ _
 ·rw [if_neg a,if_neg (mt h1.2 a)]
theorem zHh {α β:Type} (f:α→β→Int):∀(A:List α) (B:List β),(A.map fun a=>(B.map fun b=>f a b).sum).sum=(B.map fun b=>(A.map fun a=>f a b).sum).sum
 | [],B=>by
  induction B with
  | nil=>rfl
  | cons b B ih=>simp only [List.map_cons,List.sum_cons,List.map_nil,List.sum_nil] at ih ⊢; omega
 | a::A,B=>by
  rw [List.map_cons,List.sum_cons,zHh f A B]
  induction B with
  | nil=>rfl
  | cons b B ih=>simp only [List.map_cons,List.sum_cons] at ih ⊢; omega
theorem zBc {α:Type} {f g:α→Int}:∀{A:List α},(∀a∈A,f a=g a)→(A.map f).sum=(A.map g).sum
 | [],_=>rfl
 | a::A,h=>by rw [List.map_cons,List.map_cons,List.sum_cons,List.sum_cons,h a (List.mem_cons_self ..),zBc fun b hb=>h b (List.mem_cons_of_mem _ hb)]
theorem zK8 {c:List (List Int)} (hc:CartanP c):Nice c []:=by
 have h:=zC8 hc (x:=[]) (fun x hx=>by simp at hx) (by simp);have:zAQ c []=[]:=List.eq_nil_of_length_eq_zero (by have:=zB6 hc (w:=[]) (fun x hx=>by simp at hx) (by simp); simpa using this);rw [this] at h; exact h.1
theorem zEv {c:List (List Int)} {A B Y:List Trm} (hA:∀t∈A,InI t.2) (hB:∀t∈B,InI t.2) (hY:mhO c A B=some Y) (k:Nat):wrap64 (cf Y [] k)=wrap64 ((A.map fun t=>(B.map fun s=>prt c k t s).sum).sum):=by
 obtain ⟨eA,eB,eY,gY⟩:=zCK hA hB hY;have h1:=gY [] Cox.nil_lets k;rw [zJM eA.car fun t ht=>(eA.nice ht).1,zEQ eA.car (zK8 eA.car) (w:=[]) (fun _ _=>rfl) fun t ht=>(eY.nice ht).1] at h1;rw [h1];congr 1;exact zBc fun t _=>zKB t k B
theorem zGd {c:List (List Int)} {A B Y Z:List Trm} (hA:∀t∈A,InI t.2) (hB:∀t∈B,InI t.2) (hY:mhO c A B=some Y) (hZ:mhO c B A=some Z) (k:Nat):wrap64 (cf Y [] k)=wrap64 (cf Z [] k):=by
 obtain ⟨eA,eB,_,_⟩:=zCK hA hB hY;rw [zEv hA hB hY,zEv hB hA hZ,zHh];congr 1;exact zBc fun s hs=>zBc fun t ht=>zLC eA.car (eA.nice ht).1 (eB.nice hs).1 k
def sK:Nat→(Nat→Int)→Int
 | 0,_=>0
 | K+1,r=>sK K r+r K
theorem zHZ {r r':Nat→Int}:∀{K:Nat},(∀k,wrap64 (r k)=wrap64 (r' k))→wrap64 (sK K r)=wrap64 (sK K r')
 | 0,_=>rfl
 | K+1,h=>by
  have h1:=zHZ (K:=K) h;have h2:=h K;show wrap64 (sK K r+r K)=wrap64 (sK K r'+r' K);unfold wrap64 at *; omega
theorem zFd (f g:Nat→Int):∀K,sK K (fun k=>f k+g k)=sK K f+sK K g
 | 0=>rfl
 | K+1=>by show sK K _+(f K+g K)=sK K f+f K+(sK K g+g K); rw [zFd f g K]; omega
theorem zHa (a:Int) (f:Nat→Int):∀K,sK K (fun k=>a*f k)=a*sK K f
 | 0=>by simp [sK]
 | K+1=>by show sK K _+a*f K=a*(sK K f+f K); rw [zHa a f K,Int.mul_add]
theorem zJD (r:Nat→Int):∀K,sK (K+1) (sh r)=sK K r
 | 0=>rfl
 | K+1=>by show sK (K+1) (sh r)+r K=_; rw [zJD r K]; rfl
theorem zIf {r:Nat→Int} {M:Nat} (h:∀k,M≤k→r k=0):∀j,sK (M+j) r=sK M r
 | 0=>rfl
 | j+1=>by show sK (M+j) r+r (M+j)=_; rw [zIf h j,h _ (by omega)]; omega
theorem zJC {r:Nat→Int} {M K:Nat} (h:∀k,M≤k→r k=0) (hK:M≤K):sK K r=sK M r:=by
 obtain ⟨j,rfl⟩:∃j,K=M+j:=⟨K-M,by omega⟩;exact zIf h j
theorem zHf {r:Nat→Int} {M:Nat} (h:∀k,M≤k→r k=0):∀k,M+1≤k→sh r k=0
 | 0,hk=>by omega
 | k+1,hk=>h k (by omega)
theorem zKA {r:Nat→Int} {M:Nat} (h:∀k,M≤k→r k=0):∀(p:List Int) (k:Nat),M+p.length≤k→pm p r k=0
 | [],_,_=>rfl
 | a::p,k,hk=>by
  show a*r k+sh (pm p r) k=0;rw [h k (by simp at hk; omega),zHf (M:=M+p.length) (fun k hk=>zKA h p k hk) k (by simp at hk; omega)]; simp
theorem zKN {r:Nat→Int} {M K:Nat} (h:∀k,M≤k→r k=0) (hK:M+1≤K):sK K (sh r)=sK K r:=by
 obtain ⟨j,rfl⟩:∃j,K=j+1:=⟨K-1,by omega⟩;rw [zJD,zJC h (show M≤j by omega),zJC h (show M≤j+1 by omega)]
theorem zLZ {r:Nat→Int} {M K:Nat} (h:∀k,M≤k→r k=0):∀(p:List Int),M+p.length≤K→sK K (pm p r)=p.sum*sK K r
 | [],_=>by
  have:∀K,sK K (fun _=>0)=0:=fun K=>by
   induction K with
   | zero=>rfl
   | succ K ih=>show sK K _+0=0; rw [ih]; rfl
  show sK K (fun _=>0)=_;rw [this]; simp
 | a::p,hK=>by
  have h1:=zLZ (K:=K) h p (by simp at hK; omega);show sK K (fun k=>a*r k+sh (pm p r) k)=_;rw [zFd,zHa,zKN (M:=M+p.length) (fun k hk=>zKA h p k hk) (by simp at hK; omega),h1,List.sum_cons,Int.add_mul]
theorem zMY {M:Nat}:∀(m:Nat) {r:Nat→Int},(∀k,M≤k→r k=0)→∀k,M+m≤k→shN m r k=0:=by
 intro m
 induction m generalizing M with
 | zero=>intro r h k hk; exact h k hk
 | succ m ih=>intro r h k hk; exact ih (M:=M+1) (zHf h) k (by omega)
theorem zKO {K:Nat}:∀(m:Nat) {M:Nat} {r:Nat→Int},(∀k,M≤k→r k=0)→M+m≤K→sK K (shN m r)=sK K r
 | 0,_,_,_,_=>rfl
 | m+1,M,r,h,hK=>by
  show sK K (shN m (sh r))=_;rw [zKO m (M:=M+1) (zHf h) (by omega),zKN h (by omega)]
theorem zHb:∀(p:List Int) (K:Nat),p.length≤K→sK K (num p)=p.sum
 | [],K,_=>by
  rw [zJC (M:=0) (r:=num []) (fun k _=>by simp [num]) (Nat.zero_le _)]; rfl
 | a::p,K,h=>by
  obtain ⟨j,rfl⟩:∃j,K=j+1:=⟨K-1,by simp at h; omega⟩;have e:num (a::p)=fun k=>a*(if k=0 then 1 else 0)+sh (num p) k:=funext fun k=>by
   cases k with
   | zero=>simp [num,sh]
   | succ k=>simp [num,sh]
  have e1:∀j,sK (j+1) (fun k=>if k=0 then (1:Int) else 0)=1:=fun j=>by
   induction j with
   | zero=>rfl
   | succ j ih=>show sK (j+1) _+(if j+1=0 then (1:Int) else 0)=1; rw [ih]; rfl
  rw [e,zFd,zHa,e1,zJD,zHb p j (by simpa using h),List.sum_cons]; omega
theorem zF3:∀K,sK K (fun _=>0)=0
 | 0=>rfl
 | K+1=>by show sK K _+0=0; rw [zF3 K]; rfl
theorem zHc {α:Type} (f:α→Nat→Int) (K:Nat):∀A:List α,sK K (fun k=>(A.map fun a=>f a k).sum)=(A.map fun a=>sK K (f a)).sum
 | []=>by
  show sK K (fun _=>0)=0;exact zF3 K
 | a::A=>by
  have:(fun k=>((a::A).map fun a=>f a k).sum)=fun k=>f a k+(A.map fun a=>f a k).sum:=funext fun k=>by rw [List.map_cons,List.sum_cons]
  rw [this,zFd,zHc f K A,List.map_cons,List.sum_cons]
theorem zK1 {c:List (List Int)} {A B Y:List Trm} (hA:∀t∈A,InI t.2) (hB:∀t∈B,InI t.2) (hY:mhO c A B=some Y) :
  wrap64 (sK 200 (cf Y []))=wrap64 ((A.map fun t=>(B.map fun s=>if zAX c s.1 (toN t.1).reverse then t.2.sum*s.2.sum else 0).sum).sum):=by
 obtain ⟨eA,eB,eY,_⟩:=zCK hA hB hY;rw [zHZ (zEv hA hB hY),zHc];congr 1;refine zBc fun t ht=>?_;rw [zHc];refine zBc fun s hs=>?_;unfold prt;by_cases a:zAX c s.1 (toN t.1).reverse
 ·simp only [if_pos a];have h1:=eA.hk.poly t ht;have h2:=eB.hk.poly s hs;have h3:=(eA.nice ht).2;have z:∀k,61≤k→num s.2 k=0:=fun k hk=>zBD (by omega);have e:sK 200 (fun k=>pm t.2 (shN t.1.length (num s.2)) k)=sK 200 (pm t.2 (shN t.1.length (num s.2))):=rfl;rw [e,zLZ (M:=61+t.1.length) (zMY _ z) _ (by omega),zKO _ z (by omega),zHb _ _ (by omega)]
 ·simp only [if_neg a];exact zF3 _
end Go.Proofs.YtlchafedbnihoaaGreatDoor
namespace Go.Proofs.YtlchafedbnihoaaGreatDoor
open Go.RowKit
set_option maxRecDepth 20000
set_option maxHeartbeats 16000000
def eqTr (x y:Trm):Bool:=if eqL x.1 y.1 then eqL x.2 y.2 else false
def eqHk:List Trm→List Trm→Bool
 | x::xs,y::ys=>if eqTr x y then eqHk xs ys else false
 | [],[]=>true
 | _,_=>false
theorem zEi:∀{L L':List Trm},L.length≠L'.length→eqHk L L'=false
 | [],[],h=>by simp at h
 | [],_::_,_=>rfl
 | _::_,[],_=>rfl
 | x::xs,y::ys,h=>by
  unfold eqHk;rw [zEi (by simpa using h)];simp
theorem zDI {S S':Nat→Prop} {u v:Value} {L L':List Trm} {w:World} (h:RT S w u L) (h':RT S' w v L') (hl:zAD L≤16777216) (hl':zAD L'≤16777216) :
  Calls Tryz.prog 8 #[u,v] w fun e w'=>e=.returned (.bool (eqHk L L'))∧∃m,w'=w.drewN m:=by
 obtain ⟨a,cap,rfl⟩:=h.form;obtain ⟨a',cap',rfl⟩:=h'.form;have hn0:L.length≤16777216:=by unfold zAD at hl; omega
 by_cases hlen:L.length=L'.length
 ·generalize hr:eqHk L L'=r;have R:Hid (eqHk (L.drop 0) (L'.drop 0)=r):=zNg hr;clear hr;rw [<-hlen] at h' ⊢;generalize hn:L.length=n at *;have H:=zNg hn;have H':=zNg hlen;clear hn hlen;go_enter Tryz.func8,Tryz.ntmps8
  go_wp2_with fail
  go_loopw [5] (fun i wr=>∃(k:Nat),k≤n∧i=.int .i64 k∧(∃m,wr=w.drewN m)∧Hid (eqHk (L.drop k) (L'.drop k)=r)) (fun i _=>n-(intOf i).toNat)
  case atStart=>exact ⟨0,Nat.zero_le _,rfl,dr0,R⟩
  case round =>
   obtain ⟨k,hk,rfl,⟨m,hw⟩,HR⟩:=hrel;have h:=h.drewN m;have h':=h'.drewN m;rw [<-hw] at h h';have HW:=zNg hw;clear hw;by_cases hlt:k<n
   ·obtain ⟨b,o,r1,r2,x,rfl,hc,hd,⟨hr1,hr2⟩,hx⟩:=h.at hlt;obtain ⟨b',o',r3,r4,y,rfl,hc',hd',⟨hr3,hr4⟩,hy⟩:=h'.at hlt;obtain ⟨l1,p1⟩:=x;obtain ⟨l2,p2⟩:=y;have hll:l1.length≤16777216:=by have:=zA6 (zNi hx.out); simp at this; omega
    have hll':l2.length≤16777216:=by have:=zA6 (zNi hy.out); simp at this; omega
    have hlp:p1.length≤16777216:=by have:=zA6 (zNi hx.out); simp at this; omega
    have hlp':p2.length≤16777216:=by have:=zA6 (zNi hy.out); simp at this; omega
    have b1:(k:Int)<(n:Int):=by omega
    have HR2:Hid ((if (if eqL l1 l2 then eqL p1 p2 else false) then eqHk (L.drop (k+1)) (L'.drop (k+1)) else false)=r):=by
     have:=HR.out;rw [zAJ hx.out,zAJ hy.out,eqHk,eqTr] at this;exact zNg this
    have HC:∀n,Calls Tryz.prog 37 #[r1,r3] (wr.drewN n) fun e w'=>e=.returned (.bool (eqL l1 l2))∧∃m,w'=(wr.drewN n).drewN m:=fun n=>zBv (hr1.drewN n) (hr3.drewN n) hll hll';have HD:∀n,Calls Tryz.prog 37 #[r2,r4] (wr.drewN n) fun e w'=>e=.returned (.bool (eqL p1 p2))∧∃m,w'=(wr.drewN n).drewN m:=fun n=>zBv (hr2.drewN n) (hr4.drewN n) hlp hlp';generalize eqL l1 l2=q1 at *;generalize eqL p1 p2=q2 at *;have HC:=zNg HC;have HD:=zNg HD;clear hr1 hr2 hr3 hr4;cases q1
    ·have HR3:Hid (false=r):=by have:=HR2.out; exact zNg (by simpa using this)
     go_wp2_with fail
     go_quiet ((go_at_call_of 37 (r1); exact Calls.quiet_of (HC.out _)))
     go_wp2_with fail
     go_ret
     exact ⟨zAB HR3.out,m+nq,by rw [HW.out]; simp⟩
    ·cases q2
     ·have HR3:Hid (false=r):=by have:=HR2.out; exact zNg (by simpa using this)
      go_wp2_with fail
      go_quiet (first | (go_at_call_of 37 (r1); exact Calls.quiet_of (HC.out _)) | (go_at_call_of 37 (r2); exact Calls.quiet_of (HD.out _)))
      go_wp2_with fail
      go_ret
      exact ⟨zAB HR3.out,m+nq,by rw [HW.out]; simp⟩
     ·have HR3:Hid (eqHk (L.drop (k+1)) (L'.drop (k+1))=r):=by have:=HR2.out; exact zNg (by simpa using this)
      go_wp2_with fail
      go_quiet (first | (go_at_call_of 37 (r1); exact Calls.quiet_of (HC.out _)) | (go_at_call_of 37 (r2); exact Calls.quiet_of (HD.out _)))
      go_wp2_with fail
      go_roundw
      case rel=>exact ⟨k+1,by omega,by go_num,⟨m+nq,by rw [HW.out]; simp⟩,HR3⟩
      case measure=>simp [intOf]; omega
   ·go_wp2_with fail
    go_ret
    refine ⟨zAB ?_,m,HW.out⟩;have:=HR.out;rw [List.drop_eq_nil_of_le (by have:=H.out; omega),List.drop_eq_nil_of_le (by have:=H.out; have:=H'.out; omega)] at this;exact this
 ·have hne:((L.length:Int) != (L'.length:Int))=true:=by simp; omega
  have E:=zNg (zEi hlen);generalize eqHk L L'=r at *;generalize L.length=n at *;generalize L'.length=n' at *;go_enter Tryz.func8,Tryz.ntmps8
  go_wp2_with fail
  go_ret
  exact ⟨zAB E.out.symm,0,rfl⟩
theorem zGb {S S' S2 S2':Nat→Prop} {r r' q q':Value} {l l' p p':List Int} {w:World} (h:RI S w r l) (hp:RI S2 w q p) (h':RI S' w r' l') (hp':RI S2' w q' p')
  (hl:l.length≤16777216) (hl':l'.length≤16777216) (hlp:p.length≤16777216) (hlp':p'.length≤16777216) :
  Calls Tryz.prog 72 #[.agg #[r,q],.agg #[r',q']] w fun e w'=>e=.returned (.bool (eqTr (l,p) (l',p')))∧Below w.heap.size w w':=by
 obtain ⟨a,cap,rfl⟩:=h.form;obtain ⟨a',cap',rfl⟩:=h'.form;obtain ⟨a2,cap2,rfl⟩:=hp.form;obtain ⟨a2',cap2',rfl⟩:=hp'.form;have E:Hid (eqTr (l,p) (l',p')=if eqL l l' then eqL p p' else false):=zNg rfl;go_enter Tryz.func72,Tryz.ntmps72
 go_wp2_with fail
 have bb:=((Below.refl w.heap.size w).alloc (zNl _) (.cells #[.slice a l.length cap,.slice a2 p.length cap2] 39)).alloc (by simp) (.cells #[.slice a' l'.length cap',.slice a2' p'.length cap2'] 39);refine (zDD (h.below bb) (h'.below bb) hl hl').mono ?_;rintro e w' ⟨rfl,m,rfl⟩;have bb2:=below_drewN bb m;cases hq:eqL l l'
 ·go_wp2_with fail
  go_ret
  exact ⟨zAB (by rw [E.out,hq]; rfl),bb2⟩
 ·go_wp2_with fail
  refine (zDD (hp.below bb2) (hp'.below bb2) hlp hlp').mono ?_;rintro e w' ⟨rfl,m2,rfl⟩;go_wp2_with fail
  go_ret
  exact ⟨zAB (by rw [E.out,hq]; rfl),by first | exact below_drewN bb2 m2 | exact below_drewN bb _⟩
theorem zFp {S S':Nat→Prop} {u v:Value} {L L':List Trm} {w:World} (h:RT S w u L) (h':RT S' w v L') (hl:zAD L≤16777216) (hl':zAD L'≤16777216) :
  Calls Tryz.prog 71 #[u,v,.func (.func 72) #[] #[]] w fun e w'=>e=.returned (.bool (eqHk L L'))∧Below w.heap.size w w':=by
 obtain ⟨a,cap,rfl⟩:=h.form;obtain ⟨a',cap',rfl⟩:=h'.form;have hn0:L.length≤16777216:=by unfold zAD at hl; omega
 by_cases hlen:L.length=L'.length
 ·generalize hr:eqHk L L'=r;have R:Hid (eqHk (L.drop 0) (L'.drop 0)=r):=zNg hr;clear hr;rw [<-hlen] at h' ⊢;generalize hn:L.length=n at *;have H:=zNg hn;have H':=zNg hlen;clear hn hlen;go_enter Tryz.func71,Tryz.ntmps71
  go_wp2_with fail
  go_loopw [17] (fun i wr=>∃(k:Nat),k≤n∧i=.int .i64 k∧Hid (eqHk (L.drop k) (L'.drop k)=r)∧Below w.heap.size w wr) (fun i _=>n-(intOf i).toNat)
  case atStart=>exact ⟨0,Nat.zero_le _,rfl,R,Below.refl _ _⟩
  case round =>
   obtain ⟨k,hk,rfl,HR,hb⟩:=hrel;by_cases hlt:k<n
   ·obtain ⟨b,o,r1,r2,x,rfl,hc,hd,⟨hr1,hr2⟩,hx⟩:=(h.below hb).at hlt;obtain ⟨b',o',r3,r4,y,rfl,hc',hd',⟨hr3,hr4⟩,hy⟩:=(h'.below hb).at hlt;obtain ⟨l1,p1⟩:=x;obtain ⟨l2,p2⟩:=y;obtain ⟨a1,c1,rfl⟩:=hr1.form;obtain ⟨a2,c2,rfl⟩:=hr2.form;obtain ⟨a3,c3,rfl⟩:=hr3.form;obtain ⟨a4,c4,rfl⟩:=hr4.form;have hll:l1.length≤16777216:=by have:=zA6 (zNi hx.out); simp at this; omega
    have hll':l2.length≤16777216:=by have:=zA6 (zNi hy.out); simp at this; omega
    have hlp:p1.length≤16777216:=by have:=zA6 (zNi hx.out); simp at this; omega
    have hlp':p2.length≤16777216:=by have:=zA6 (zNi hy.out); simp at this; omega
    have b1:(k:Int)<(n:Int):=by omega
    have HR2:Hid ((if eqTr (l1,p1) (l2,p2) then eqHk (L.drop (k+1)) (L'.drop (k+1)) else false)=r):=by
     have:=HR.out;rw [zAJ hx.out,zAJ hy.out,eqHk] at this;exact zNg this
    have hc2:=zAT hc' (.cells #[.slice a1 l1.length c1,.slice a2 p1.length c2] 39);have hd2:=zAT hd' (.cells #[.slice a1 l1.length c1,.slice a2 p1.length c2] 39);go_wp2_with fail
    have bb:=((Below.refl wr.heap.size wr).alloc (zNl _) (.cells #[.slice a1 l1.length c1,.slice a2 p1.length c2] 39)).alloc (by simp) (.cells #[.slice a3 l2.length c3,.slice a4 p2.length c4] 39);refine (zGb (hr1.below bb) (hr2.below bb) (hr3.below bb) (hr4.below bb) hll hll' hlp hlp').mono ?_;cases hq:eqTr (l1,p1) (l2,p2)
    ·rintro e w2 ⟨rfl,b2⟩;have b3:=zAA.step hb (zAA.step bb b2);have HR3:Hid (false=r):=by have:=HR2.out; rw [hq] at this; exact zNg (by simpa using this)
     go_wp2_with fail
     go_ret
     exact ⟨zAB HR3.out,b3⟩
    ·rintro e w2 ⟨rfl,b2⟩;have b3:=zAA.step hb (zAA.step bb b2);have HR3:Hid (eqHk (L.drop (k+1)) (L'.drop (k+1))=r):=by have:=HR2.out; rw [hq] at this; exact zNg (by simpa using this)
     go_wp2_with fail
     go_roundw
     case rel=>exact ⟨k+1,by omega,by go_num,HR3,b3⟩
     case measure=>simp [intOf]; omega
   ·go_wp2_with fail
    go_ret
    refine ⟨zAB ?_,hb⟩;have:=HR.out;rw [List.drop_eq_nil_of_le (by have:=H.out; omega),List.drop_eq_nil_of_le (by have:=H.out; have:=H'.out; omega)] at this;exact this
 ·have hne:((L.length:Int) != (L'.length:Int))=true:=by simp; omega
  have E:=zNg (zEi hlen);generalize eqHk L L'=r at *;generalize L.length=n at *;generalize L'.length=n' at *;go_enter Tryz.func71,Tryz.ntmps71
  go_wp2_with fail
  go_ret
  exact ⟨zAB E.out.symm,Below.refl _ _⟩
theorem zFq {S S':Nat→Prop} {u v:Value} {L L':List Trm} {w:World} (h:RT S w u L) (h':RT S' w v L') (hl:zAD L≤16777216) (hl':zAD L'≤16777216) :
  Calls Tryz.prog 30 #[u,v] w fun e w'=>e=.returned (.bool (eqHk L L'))∧Below w.heap.size w w':=by
 go_enter Tryz.func30,Tryz.ntmps30
 go_wp2_with fail
 refine (zFp h h' hl hl').mono ?_;rintro e w' ⟨rfl,hb⟩;go_wp2_with fail
 go_ret
 exact ⟨rfl,hb⟩
theorem zCv {c:List (List Int)} {A B:List Trm} (h:mhB c A B=true):mhO c A B=some (mhR c A B):=by
 unfold mhB mhR at *;cases e:mhO c A B with
 | none=>rw [e] at h; cases h
 | some r=>rfl
theorem zIF (l:List Int):eqL l l=true:=by unfold eqL; simp
theorem zGD:∀L:List Trm,eqHk L L=true
 | []=>rfl
 | x::L=>by unfold eqHk eqTr; rw [zIF,zIF,zGD L]; rfl
theorem zEh {L:List Trm} (hc:Can L) (u:List Int):∀k,num (zAW u L) k=cf L u k:=by
 induction L with
 | nil=>intro k; simp [zAW,zFB,num]
 | cons t L ih =>
  intro k;unfold zAW;rw [zAm];by_cases e:t.1=u
  ·have:eqL t.1 u=true:=by unfold eqL; simp [e]
   rw [if_pos this,if_pos e,zCr fun s hs=>by rw [<-e]; exact zBX (hc.tail.2 s hs)]; omega
  ·have:eqL t.1 u=false:=by unfold eqL; simp [e]
   rw [this,if_neg e,if_neg (by simp),ih hc.tail.1 k]; omega
theorem zDx {u:List Int}:∀{L:List Trm},zAW u L=[]∨∃t∈L,zAW u L=t.2
 | []=>.inl rfl
 | x::L=>by
  unfold zAW;split
  ·exact .inr ⟨x,List.mem_cons_self ..,rfl⟩
  ·rcases zDx (u:=u) (L:=L) with h | ⟨t,ht,h⟩
   ·exact .inl h
   ·exact .inr ⟨t,List.mem_cons_of_mem _ ht,h⟩
theorem zJH {c:List (List Int)} {A B:List Trm} (hA:∀t∈A,InI t.2) (hB:∀t∈B,InI t.2) (h1:mhB c A B=true) (h2:mhB c B A=true):zAW [] (mhR c A B)=zAW [] (mhR c B A):=by
 have e1:=zCv h1;have e2:=zCv h2;obtain ⟨_,_,y1,_⟩:=zCK hA hB e1;obtain ⟨_,_,y2,_⟩:=zCK hB hA e2;have tr:∀{L:List Trm},Elt c L→Trd (zAW [] L)∧InI (zAW [] L):=fun {L} hL=>by
  rcases zDx (u:=[]) (L:=L) with h | ⟨t,ht,h⟩
  ·rw [h]; exact ⟨.inl rfl,fun x hx=>by simp at hx⟩
  ·rw [h]; exact ⟨hL.hk.tr t ht,hL.inn t ht⟩
 refine zF6 (tr y1).1 (tr y2).1 fun k=>?_;have:=zGd hA hB e1 e2 k;rw [<-zEh y1.can,<-zEh y2.can,zCI ((tr y1).2.num k),zCI ((tr y2).2.num k)] at this;exact this
theorem zIx {c:List (List Int)} {A B:List Trm} {l:List Int} (hA:∀t∈A,InI t.2) (hB:∀t∈B,InI t.2) (hl:isWd c l=true) (h1:mhB c A B=true) (h2:mhB c (mhR c A B) (zAd c l)=true)
  (h3:mhB c B (zAd c l)=true) (h4:mhB c A (mhR c B (zAd c l))=true):mhR c (mhR c A B) (zAd c l)=mhR c A (mhR c B (zAd c l)):=by
 obtain ⟨a1,a2,a3⟩:=zBF hl;have hc:=zBL.1 a1;have hx:Nice c (zAi c l):=by unfold zAi; rw [if_pos hl]; exact (zC8 hc a3 (by omega)).1
 have e:zAd c l=[(zAi c l,[1])]:=by unfold zAd; rw [if_pos hl]
 rw [e] at h2 h3 h4 ⊢;exact zK0 hA hB hx (zCv h1) (zCv h2) (zCv h3) (zCv h4)
theorem zC5:∀p:List Int,zA7 1 p=wrap64 p.sum
 | []=>by simp [zA7,wrap64]
 | y::p=>by
  unfold zA7;rw [zC5 p,List.sum_cons];unfold wrap64; omega
theorem zLM (x y:Int):wrap64 (wrap64 x*wrap64 y)=wrap64 (x*y):=by
 obtain ⟨a,ha⟩:∃a,wrap64 x=x+18446744073709551616*a:=⟨(wrap64 x-x) / 18446744073709551616,by unfold wrap64; omega⟩;obtain ⟨b,hb⟩:∃b,wrap64 y=y+18446744073709551616*b:=⟨(wrap64 y-y) / 18446744073709551616,by unfold wrap64; omega⟩;have e:wrap64 x*wrap64 y=x*y+18446744073709551616*(x*b+a*y+18446744073709551616*(a*b)):=by
  rw [ha,hb]
  grind
 rw [e];generalize x*b+a*y+18446744073709551616*(a*b)=q;unfold wrap64; omega
def pr1 (c:List (List Int)) (t s:Trm):Int:=if zAi c t.1.reverse=s.1 then t.2.sum*s.2.sum else 0
def row1 (c:List (List Int)) (B:List Trm) (t:Trm):Int:=(B.map fun s=>pr1 c t s).sum
def tot1 (c:List (List Int)) (A B:List Trm):Int:=(A.map fun t=>row1 c B t).sum
theorem zKL {c:List (List Int)} {B:List Trm} {t s:Trm} {j:Nat} (h:B[j]? = some s):row1 c (B.take (j+1)) t=row1 c (B.take j) t+pr1 c t s:=by
 unfold row1; rw [zAV h,List.map_append,List.sum_append]; simp
theorem zKi {c:List (List Int)} {A B:List Trm} {t:Trm} {i:Nat} (h:A[i]? = some t):tot1 c (A.take (i+1)) B=tot1 c (A.take i) B+row1 c B t:=by
 unfold tot1; rw [zAV h,List.map_append,List.sum_append]; simp
theorem zKZ {m x y T p:Int} (hm:m=wrap64 T) (hp:p=x*y):wrap64 (m+wrap64 (wrap64 x*wrap64 y))=wrap64 (T+p):=by
 rw [zLM,hm,hp];generalize x*y=q;unfold wrap64; omega
theorem zJI {c:List (List Int)} {A B:List Trm} (hA:∀t∈A,InI t.2) (hB:∀t∈B,InI t.2) (h:mhB c A B=true):zA7 1 (zAW [] (mhR c A B))=wrap64 (tot1 c A B):=by
 have e1:=zCv h;obtain ⟨eA,eB,y1,_⟩:=zCK hA hB e1;have hc:=eA.car;have hl:(zAW [] (mhR c A B)).length≤61:=by
  rcases zDx (u:=[]) (L:=mhR c A B) with h | ⟨t,ht,h⟩
  ·rw [h]; simp
  ·rw [h]; exact y1.hk.poly t ht
 have hv:=zK1 hA hB e1;have e2:cf (mhR c A B) []=num (zAW [] (mhR c A B)):=funext fun k=>(zEh y1.can [] k).symm;rw [e2,zHb _ _ (by omega)] at hv;rw [zC5,hv];congr 1;unfold tot1 row1;refine zBc fun t ht=>zBc fun s hs=>?_;have nt:=eA.nice ht;have ns:=eB.nice hs;have wt:=(zG7 (eA.hk.wd t ht)).1;obtain ⟨b1,b2,b3⟩:=zBF wt;have lr:Lets c.length t.1.reverse:=fun x hx=>b3 x (by simpa using hx);have wr:isWd c t.1.reverse=true:=by
  unfold isWd;rw [b1,decide_eq_true (show t.1.reverse.length≤15 by simpa using b2),zEg.2 fun x hx=>by have:=lr x hx; unfold ptB; exact zII (by omega)];rfl
 obtain ⟨n1,n2⟩:=zC8 hc lr (by simp; omega);have e3:zAi c t.1.reverse=zAQ c t.1.reverse:=by unfold zAi; rw [if_pos wr]
 have e4:toN t.1.reverse=(toN t.1).reverse:=by unfold toN; rw [List.map_reverse]
 have e5:zAX c s.1 (toN t.1).reverse↔zAi c t.1.reverse=s.1:=by
  rw [e3,zA5 hc ns.1.lets (Cox.lets_rev (zAu nt.1.lets))];rw [e4] at n2;rw [<-(n1.same hc ns.1),zA5 hc n1.lets (zAu ns.1.lets)];exact ⟨fun a=>n2.trans a.symm,fun a=>a.symm.trans n2⟩
 unfold pr1;by_cases a:zAi c t.1.reverse=s.1
 ·rw [if_pos a,if_pos (e5.2 a)]
 ·rw [if_neg a,if_neg (mt e5.1 a)]
end Go.Proofs.YtlchafedbnihoaaGreatDoor
