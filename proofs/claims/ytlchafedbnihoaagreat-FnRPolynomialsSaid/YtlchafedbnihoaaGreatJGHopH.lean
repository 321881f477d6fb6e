/- Lists of terms as functions of words; the products of the program and the reference by these functions. Plain. -/
import Derived.Test.YtlchafedbnihoaaGreatJGHop
import Derived.Test.YtlchafedbnihoaaGreatJGMulH
import Derived.Deep.RegionWith
namespace Go.Proofs.YtlchafedbnihoaaGreat
open Go.RowKit
open Cox (Fw EqL Inv Rdd Eqv lop rop lops rops sh shN Ld Rd)
set_option maxRecDepth 20000
def tf (c:List (List Int)) (t:Trm):Fw:=fun w k=>if zAp c t.1 w then num t.2 k else 0
def fL (c:List (List Int)):List Trm→Fw
 | []=>fun _ _=>0
 | t::L=>fun w k=>tf c t w k+fL c L w k
theorem zII (c:List (List Int)) (M:List Trm) (w:List Nat) (k:Nat):∀L:List Trm,fL c (L++M) w k=fL c L w k+fL c M w k
 | []=>by simp [fL]
 | t::L=>by
  show tf c t w k+fL c (L++M) w k=tf c t w k+fL c L w k+fL c M w k;rw [zII c M w k L]; omega
theorem zGI {c:List (List Int)} (hc:CartanP c) {u:List Int} (hu:Nice c u) {w:List Nat} (hs:zAp c u w):∀{L:List Trm},(∀t∈L,Nice c t.1)→∀k,fL c L w k=cf L u k
 | [],_,_=>rfl
 | t::L,h,k=>by
  have ih:=zGI hc hu hs (fun t ht=>h t (List.mem_cons_of_mem _ ht)) k;have ht:=h t (List.mem_cons_self ..);rw [zAw,<-ih];show tf c t w k+_=_;unfold tf;have e:zAp c t.1 w↔t.1=u:=by
   rw [<-ht.same hc hu];unfold zAp at hs ⊢;exact ⟨fun a k hk=>(a k hk).trans (hs k hk).symm,fun a k hk=>(a k hk).trans (hs k hk)⟩
  by_cases a:t.1=u
  ·rw [if_pos a,if_pos (e.2 a)]
  ·rw [if_neg a,if_neg (mt e.1 a)]
theorem zEx {c:List (List Int)} {w:List Nat}:∀{L:List Trm},(∀t∈L,¬zAp c t.1 w)→∀k,fL c L w k=0
 | [],_,_=>rfl
 | t::L,h,k=>by
  show tf c t w k+fL c L w k=0;rw [zEx (fun t ht=>h t (List.mem_cons_of_mem _ ht)) k];unfold tf;rw [if_neg (h t (List.mem_cons_self ..))]; rfl
def CgF (n:Nat) (f g:Fw):Prop:=∀w,Cox.Lets n w→∀k,wrap64 (f w k)=wrap64 (g w k)
theorem CgF.refl {n:Nat} (f:Fw):CgF n f f:=fun _ _ _=>rfl
theorem CgF.symm {n:Nat} {f g:Fw} (h:CgF n f g):CgF n g f:=fun w hw k=>(h w hw k).symm
theorem CgF.trans {n:Nat} {f g k:Fw} (h:CgF n f g) (h':CgF n g k):CgF n f k:=fun w hw j=>(h w hw j).trans (h' w hw j)
theorem CgF.of {n:Nat} {f g:Fw} (h:EqL n f g):CgF n f g:=fun w hw k=>by rw [h w hw]
theorem zGm {r r':Nat→Int} (h:∀k,wrap64 (r k)=wrap64 (r' k)):∀k,wrap64 (sh r k)=wrap64 (sh r' k)
 | 0=>rfl
 | k+1=>h k
theorem zK2 {n:Nat} {c:Nat→Nat→Int} {s:Nat} (hs:s<n) {f g:Fw} (h:CgF n f g):CgF n (lop c s f) (lop c s g):=fun w hw k=>by
 have h1:=h w hw k;have h2:=zGm (h w hw) k;have h3:=h _ (Cox.lets_cons' hs hw) k;have h4:=zGm (h _ (Cox.lets_cons' hs hw)) k;unfold lop;by_cases a:Ld c s w
 ·rw [if_pos a,if_pos a]; unfold wrap64 at *; omega
 ·rw [if_neg a,if_neg a]; exact h4
theorem zJZ {n:Nat} {c:Nat→Nat→Int} {f g:Fw} (h:CgF n f g):∀{w:List Nat},Cox.Lets n w→CgF n (lops c w f) (lops c w g)
 | [],_=>h
 | _::_,hw=>zK2 (Cox.lets_parts hw).1 (zJZ h (Cox.lets_parts hw).2)
theorem zDZ:∀(n:Nat) (L:List Trm),L.length=n→∀s∈puts L,∃t∈L,s.1=t.1
 | 0,L,hn,s,hs=>by
  have:=List.eq_nil_of_length_eq_zero hn;subst this;simp [puts] at hs
 | n+1,L,hn,s,hs=>by
  rcases zBU L with rfl | ⟨a,t,rfl⟩
  ·simp at hn
  ·have ha:a.length=n:=by simp at hn; exact hn
   rw [zDO] at hs;rcases zEg hs with e | ⟨r,hr,e⟩
   ·exact ⟨t,by simp,e⟩
   ·obtain ⟨q,hq,e2⟩:=zDZ n a ha r hr;exact ⟨q,List.mem_append_left _ hq,e.trans e2⟩
theorem zFT {c:List (List Int)} (hc:CartanP c) {D:List Trm} (hn:∀t∈D,Nice c t.1) (ho:∀t∈D,Trd t.2∧InI t.2):CgF c.length (fL c (puts D)) (fL c D):=fun w hw k=>by
 have hp:∀t∈puts D,Nice c t.1:=fun t ht=>by
  obtain ⟨s,hs,e⟩:=zDZ _ D rfl t ht;rw [e]; exact hn s hs
 by_cases h:∃t∈D,zAp c t.1 w
 ·obtain ⟨t,ht,hs⟩:=h;rw [zGI hc (hn t ht) hs hp,zGI hc (hn t ht) hs hn,(zBD _ D rfl ho).2]
 ·rw [zEx (L:=D) fun t ht hs=>h ⟨t,ht,hs⟩,zEx (L:=puts D) fun t ht hs=>by
   obtain ⟨s,hs2,e⟩:=zDZ _ D rfl t ht;exact h ⟨s,hs2,by rw [<-e]; exact hs⟩]
theorem zPe {c:List (List Int)} (hc:CartanP c) {g h:List Trm} (cg:Can g) (ch:Can h) (ng:∀t∈g,Nice c t.1) (nh:∀t∈h,Nice c t.1) (e:CgF c.length (fL c g) (fL c h)):g=h:=by
 refine zGq cg ch fun u k=>?_;by_cases hu:∃t,(t∈g∨t∈h)∧t.1=u
 ·obtain ⟨t,ht,rfl⟩:=hu;have hn:Nice c t.1:=by
   rcases ht with ht | ht
   ·exact ng t ht
   ·exact nh t ht
  have:=e (toN t.1) (zAx hn.lets) k;rwa [zGI hc hn (fun _ _=>rfl) ng,zGI hc hn (fun _ _=>rfl) nh] at this
 ·rw [zD8 fun t ht e=>hu ⟨t,.inl ht,e⟩,zD8 fun t ht e=>hu ⟨t,.inr ht,e⟩]
theorem zFY (p:List Int) (k:Nat):num (shI p) k=sh (num p) k:=by
 unfold shI;by_cases h:trim p=[]
 ·rw [if_pos h];have:∀k,num p k=0:=fun k=>by rw [<-zBC,h]; simp [num]
  rw [Cox.sh_zero' this]; simp [num]
 ·rw [if_neg h];cases k with
  | zero=>simp [num,sh]
  | succ k =>
   have e:num (0::trim p) (k+1)=num (trim p) k:=by simp [num]
   rw [e,zBC]; rfl
theorem zF4 (p q:List Int) (k:Nat):wrap64 (num (subP p q) k)=wrap64 (num p k-num q k):=by
 unfold subP;rw [zEd];have:num (negL q) k=wrap64 (- num q k):=by
  unfold negL num;rw [List.getElem?_map];cases q[k]? with
  | none=>simp [wrap64]
  | some x=>rfl
 rw [this];unfold wrap64; omega
theorem zOO (c:Nat→Nat→Int) (s:Nat) (f g:Fw):lop c s (fun w k=>f w k+g w k)=fun w k=>lop c s f w k+lop c s g w k:=funext fun w=>funext fun k=>by
 unfold lop;by_cases a:Ld c s w
 ·rw [if_pos a,if_pos a,if_pos a]; rcases k with _ | k <;> simp only [sh] <;> omega
 ·rw [if_neg a,if_neg a,if_neg a]; rcases k with _ | k <;> simp only [sh] <;> rfl
theorem zHy (p:Prop) [Decidable p] (r:Nat→Int) (k:Nat):sh (fun k=>if p then r k else 0) k=if p then sh r k else 0:=by
 cases k with
 | zero=>show 0=_; split <;> rfl
 | succ k=>rfl
theorem zPp {c:List (List Int)} (hc:CartanP c) {t:Trm} (h:Nice c t.1) (hl:t.1.length≤27) {i:Int} (hi:0≤i∧i<c.length):CgF c.length (fL c (letT c i t)) (lop (ent c) i.toNat (tf c t)):=fun w hw k=>by
 obtain ⟨h1,h2,h3⟩:=zHX hc h hl hi;have hs:i.toNat<c.length:=by omega
 have hx:=zAx h.lets;have fx:=Ld.flip hc.car hs hx;have fw:=Ld.flip hc.car hs hw;have e1:zAp c (zAB c (i::t.1)) w↔zAp c t.1 (i.toNat::w):=by
  rw [same_eqv hc h1.lets hw,same_eqv hc h.lets (Cox.lets_cons' hs hw)];exact ⟨fun a=>((Eqv.dbl hc.car hs _).symm.trans (h2.symm.cons _)).trans (a.cons _),fun a=>h2.trans ((a.cons _).trans (Eqv.dbl hc.car hs w))⟩
 have d1:zAp c t.1 w→(Ld (ent c) i.toNat (toN t.1)↔Ld (ent c) i.toNat w):=fun a=>Ld.eqv _ ((same_eqv hc h.lets hw).1 a);have d2:zAp c t.1 (i.toNat::w)→(Ld (ent c) i.toNat (toN t.1)↔¬Ld (ent c) i.toNat w):=fun a=>(Ld.eqv _ ((same_eqv hc h.lets (Cox.lets_cons' hs hw)).1 a)).trans fw;unfold letT;by_cases d:Ld (ent c) i.toNat (toN t.1)
 ·rw [if_neg (fun x=>(h3.1 x) d)];show wrap64 (tf c (zAB c (i::t.1),shI t.2) w k+(tf c (t.1,subP (shI t.2) t.2) w k+0))=_;by_cases a:Ld (ent c) i.toNat w
  ·have n2:¬zAp c t.1 (i.toNat::w):=fun x=>(d2 x).1 d a;rw [Cox.lop_yes a];show _=wrap64 (tf c t (i.toNat::w) k+(sh (fun k=>if zAp c t.1 w then num t.2 k else 0) k-tf c t w k));rw [zHy];unfold tf;simp only [e1,n2,if_false];by_cases b:zAp c t.1 w
   ·rw [if_pos b,if_pos b,if_pos b];have:=zF4 (shI t.2) t.2 k;rw [zFY] at this;simp only [Int.zero_add,Int.add_zero];exact this
   ·rw [if_neg b,if_neg b,if_neg b]; rfl
  ·have n1:¬zAp c t.1 w:=fun x=>a ((d1 x).1 d);rw [Cox.lop_no a];show _=wrap64 (sh (fun k=>if zAp c t.1 (i.toNat::w) then num t.2 k else 0) k);rw [zHy];unfold tf;simp only [e1,n1,if_false,zFY];congr 1;simp
 ·rw [if_pos (h3.2 d)];show wrap64 (tf c (zAB c (i::t.1),t.2) w k+0)=_;by_cases a:Ld (ent c) i.toNat w
  ·have n1:¬zAp c t.1 w:=fun x=>d ((d1 x).2 a);rw [Cox.lop_yes a];show _=wrap64 (tf c t (i.toNat::w) k+(sh (fun k=>if zAp c t.1 w then num t.2 k else 0) k-tf c t w k));rw [zHy];unfold tf;simp only [e1,n1,if_false];congr 1
  ·have n2:¬zAp c t.1 (i.toNat::w):=fun x=>d ((d2 x).2 a);rw [Cox.lop_no a];show _=wrap64 (sh (fun k=>if zAp c t.1 (i.toNat::w) then num t.2 k else 0) k);rw [zHy];unfold tf;simp only [e1,n2,if_false];rfl
theorem zJp {c:List (List Int)} (hc:CartanP c) {i:Int} (hi:0≤i∧i<c.length):∀{L:List Trm},(∀t∈L,Nice c t.1∧t.1.length≤27)→CgF c.length (fL c (letL c i L)) (lop (ent c) i.toNat (fL c L))
 | [],_=>fun w hw k=>by
  show wrap64 0=wrap64 (lop (ent c) i.toNat (fun _ _=>0) w k);unfold lop;rcases k with _ | k <;> simp [sh]
 | t::L,h=>fun w hw k=>by
  obtain ⟨h1,h2⟩:=h t (List.mem_cons_self ..);have e1:=zPp hc h1 h2 hi w hw k;have e2:=zJp hc hi (L:=L) (fun s hs=>h s (List.mem_cons_of_mem _ hs)) w hw k;have e3:lop (ent c) i.toNat (fL c (t::L)) w k=lop (ent c) i.toNat (tf c t) w k+lop (ent c) i.toNat (fL c L) w k:=by
   show lop (ent c) i.toNat (fun w k=>tf c t w k+fL c L w k) w k=_;rw [zOO]
  show wrap64 (fL c (letT c i t++letL c i L) w k)=_;rw [zII,e3];generalize lop (ent c) i.toNat (tf c t) w k=a1 at *;generalize lop (ent c) i.toNat (fL c L) w k=a2 at *;unfold wrap64 at *; omega
def pm:List Int→(Nat→Int)→(Nat→Int)
 | [],_=>fun _=>0
 | a::p,r=>fun k=>a*r k+sh (pm p r) k
theorem zLx (f g:Nat→Int):∀(p:List Int) (k:Nat),pm p (fun k=>f k+g k) k=pm p f k+pm p g k
 | [],_=>rfl
 | a::p,k=>by
  have h:=zLx f g p;show a*(f k+g k)+sh (pm p _) k=a*f k+sh (pm p f) k+(a*g k+sh (pm p g) k);rw [Int.mul_add];cases k with
  | zero=>simp only [sh]; omega
  | succ k=>simp only [sh]; rw [h k]; omega
theorem zDA:∀(p:List Int) (k:Nat),pm p (fun _=>0) k=0
 | [],_=>rfl
 | a::p,k=>by
  show a*0+sh (pm p _) k=0;rw [Cox.sh_zero' (zDA p)]; simp
theorem zNf {r r':Nat→Int} (h:∀k,wrap64 (r k)=wrap64 (r' k)):∀(p:List Int) (k:Nat),wrap64 (pm p r k)=wrap64 (pm p r' k)
 | [],_=>rfl
 | a::p,k=>by
  have h1:=zGm (zNf h p) k;obtain ⟨z,hz⟩:∃z,r k=r' k+18446744073709551616*z:=by
   have:=h k;unfold wrap64 at this;exact ⟨(r k-r' k) / 18446744073709551616,by omega⟩
  show wrap64 (a*r k+sh (pm p r) k)=wrap64 (a*r' k+sh (pm p r') k);rw [hz,Int.mul_add,Int.mul_left_comm];generalize a*z=y;generalize a*r' k=x;unfold wrap64 at *; omega
def un (r:Nat→Int):Prop:=r 0=1∧∀k,r (k+1)=0
theorem zKf {r:Nat→Int} (h:un r):∀(p:List Int) (k:Nat),pm p r k=num p k
 | [],_=>by simp [pm,num]
 | a::p,k=>by
  show a*r k+sh (pm p r) k=_;cases k with
  | zero=>rw [h.1]; simp [sh,num]
  | succ k=>rw [h.2]; show a*0+pm p r k=_; rw [zKf h p k]; simp [num]
theorem zFn (b:Int) (q:List Int):∀(p:List Int) (k:Nat),pm p (num (b::q)) k=b*num p k+sh (pm p (num q)) k
 | [],k=>by
  show (0:Int)=b*num [] k+sh (fun _=>0) k;rw [Cox.sh_zero' (fun _=>rfl)]; simp [num]
 | a::p,k=>by
  have h:=zFn b q p;show a*num (b::q) k+sh (pm p (num (b::q))) k=b*num (a::p) k+sh (fun k=>a*num q k+sh (pm p (num q)) k) k;cases k with
  | zero=>simp [num,sh,Int.mul_comm]
  | succ k =>
   have e1:num (b::q) (k+1)=num q k:=by simp [num]
   have e2:num (a::p) (k+1)=num p k:=by simp [num]
   show a*num (b::q) (k+1)+pm p (num (b::q)) k=b*num (a::p) (k+1)+(a*num q k+sh (pm p (num q)) k);rw [h k,e1,e2]; omega
theorem zJx:∀(p q:List Int) (k:Nat),pm p (num q) k=pm q (num p) k
 | p,[],k=>by
  show _=(0:Int);have:num ([]:List Int)=fun _=>0:=by funext k; simp [num]
  rw [this,zDA]
 | p,b::q,k=>by
  rw [zFn];show _=b*num p k+sh (pm q (num p)) k;have:pm p (num q)=pm q (num p):=funext fun k=>zJx p q k;rw [this]
theorem zJy (x:Int) (r:Nat→Int):∀(p:List Int) (k:Nat),pm (p++[x]) r k=pm p r k+x*shN p.length r k
 | [],k=>by
  show x*r k+sh (pm [] r) k=0+x*r k;rw [Cox.sh_zero' (r:=pm [] r) (fun _=>rfl)]; omega
 | a::p,k=>by
  have h:=zJy x r p;have e:∀(m:Nat) (r:Nat→Int) (k:Nat),shN m (sh r) k=sh (shN m r) k:=fun m=>by
   induction m with
   | zero=>intros; rfl
   | succ m ih=>intro r k; exact ih (sh r) k
  show a*r k+sh (pm (p++[x]) r) k=a*r k+sh (pm p r) k+x*shN p.length (sh r) k;rw [e];cases k with
  | zero=>simp [sh]
  | succ k=>simp only [sh]; rw [h k]; omega
theorem zOy (q:List Int):∀(m k:Nat),shN m (num q) k=if m≤k then num q (k-m) else 0:=by
 have key:∀(m:Nat) (r:Nat→Int) (k:Nat),shN m r k=if m≤k then r (k-m) else 0:=fun m=>by
  induction m with
  | zero=>intro r k; simp [shN]
  | succ m ih =>
   intro r k;show shN m (sh r) k=_;rw [ih];by_cases h:m+1≤k
   ·rw [if_pos (by omega),if_pos h,show k-m=(k-(m+1))+1 by omega]; rfl
   ·rw [if_neg h];by_cases h2:m≤k
    ·rw [if_pos h2,show k-m=0 by omega]; rfl
    ·rw [if_neg h2]
 exact fun m k=>key m (num q) k
theorem zJw (l:List Int) (i:Nat) (x:Int) (j:Nat):num (l.set i x) j=if i=j∧j<l.length then x else num l j:=by
 unfold num;rw [List.getElem?_set];by_cases h:i=j
 ·subst h;by_cases h2:i<l.length
  ·simp [h2]
  ·simp [h2]
 ·simp [h]
theorem zGW (a b:List Int) (i:Nat) (O:List Int) (hO:i+b.length≤O.length) (j:Nat):∀k,k≤b.length→wrap64 (num (zAq a b i O k) j)=wrap64 (num O j+if i≤j∧j<i+k then num a i*num b (j-i) else 0)
 | 0,_=>by
  show wrap64 (num O j)=_;rw [if_neg (by omega),Int.add_zero]
 | k+1,hk=>by
  have ih:=zGW a b i O hO j k (by omega);have hl:=zC0 a b i O k;unfold zAq;rw [zJw,hl];by_cases h:i+k=j
  ·rw [if_neg (by omega)] at ih;rw [if_pos ⟨h,by omega⟩,if_pos (by omega),h,show j-i=k by omega];generalize num a i*num b k=y;unfold wrap64 at *; omega
  ·rw [if_neg (by omega),ih];by_cases h2:i≤j∧j<i+k
   ·rw [if_pos h2,if_pos (by omega)]
   ·rw [if_neg h2,if_neg (by omega)]
theorem zHW (a b:List Int) (hb:0<b.length) (j:Nat):∀i,i≤a.length→wrap64 (num (zAg a b i) j)=wrap64 (pm (a.take i) (num b) j)
 | 0,_=>by
  show wrap64 (num (List.replicate _ 0) j)=wrap64 0;unfold num;rw [List.getElem?_replicate];split <;> rfl
 | i+1,hi=>by
  have ih:=zHW a b hb j i (by omega);have hl:=zCL a b i;have h1:=zGW a b i (zAg a b i) (by omega) j b.length (zQd _);have e:a.take (i+1)=a.take i++[num a i]:=by
   rw [List.take_add_one];unfold num;rw [zQZ (show i<a.length by omega)]; rfl
  unfold zAg;rw [h1,e,zJy,zOy,List.length_take,Nat.min_eq_left (by omega)];by_cases h2:i≤j
  ·rw [if_pos h2];by_cases h3:j<i+b.length
   ·rw [if_pos ⟨h2,h3⟩];generalize num a i*num b (j-i)=y;unfold wrap64 at *; omega
   ·rw [if_neg (fun x=>h3 x.2),zAu (l:=b) (by omega)];unfold wrap64 at *; omega
  ·rw [if_neg h2,if_neg (fun x=>h2 x.1)];unfold wrap64 at *; omega
theorem zIf (a b:List Int) (h:a.length+b.length≤62) (k:Nat):wrap64 (num (mulP a b) k)=wrap64 (pm b (num a) k):=by
 rw [<-zJx a b];unfold mulP;by_cases ha:a.length=0
 ·rw [if_pos (.inl ha),List.eq_nil_of_length_eq_zero ha]; simp [num,pm]
 ·by_cases hb:b.length=0
  ·rw [if_pos (.inr (.inl hb)),List.eq_nil_of_length_eq_zero hb];have:num ([]:List Int)=fun _=>0:=by funext k; simp [num]
   rw [this,zDA]
  ·rw [if_neg (by omega),zBC,zHW a b (by omega) k _ (zQd _),List.take_length]
def LH (c:List (List Int)):List Trm→Fw→Fw
 | [],_=>fun _ _=>0
 | t::A,f=>fun w k=>pm t.2 (lops (ent c) (toN t.1) f w) k+LH c A f w k
structure Elt (c:List (List Int)) (L:List Trm):Prop where
 hk:Hk c L
 inn:∀t∈L,InI t.2
theorem Elt.car {c:List (List Int)} {L:List Trm} (h:Elt c L):CartanP c:=zAY.1 h.hk.car
theorem Elt.nice {c:List (List Int)} {L:List Trm} (h:Elt c L) {t:Trm} (ht:t∈L):Nice c t.1∧t.1.length≤15:=by
 have h1:=(zLV (h.hk.wd t ht));have h2:=zAT h1.1;exact ⟨⟨h2.2.2,by omega,h1.2⟩,h2.2.1⟩
theorem Elt.can {c:List (List Int)} {L:List Trm} (h:Elt c L):Can L:=h.hk.can h.inn
theorem Elt.nil {c:List (List Int)} (h:isHk c []=true):Elt c []:=⟨zAZ h,fun t ht=>by simp at ht⟩
theorem zQS {c:List (List Int)} {i:Int} {L:List Trm} (h:Elt c L) (hb:mlB c i L=true):Elt c (mlR c i L)∧(0≤i∧i<c.length)∧CgF c.length (fL c (mlR c i L)) (lop (ent c) i.toNat (fL c L)):=by
 have hb':=hb;unfold mlB at hb;simp only [Bool.and_eq_true] at hb;obtain ⟨h1,h2,h3⟩:=hb;have hi:=zLy h2;have hr:mlR c i L=puts (letL c i L):=by
  unfold mlR gd; rw [if_pos h1,if_pos h2,if_pos h3]
 have hin:=zLg (c:=c) (i:=i) h.inn;rw [hr] at hin ⊢;have ok:=zFV h.hk h2 h.inn;refine ⟨⟨zAZ h3,hin⟩,hi,(zFT h.car (fun t ht=>?_) (fun t ht=>(ok t ht).2.2)).trans (zJp h.car hi fun t ht=>⟨(h.nice ht).1,by have:=(h.nice ht).2; omega⟩)⟩;obtain ⟨s,hs,ht⟩:=zFw ht;have hn:=h.nice hs;have hst:=zHX h.car hn.1 (by omega) hi;unfold letT at ht;split at ht
 ·rw [List.mem_singleton] at ht; rw [ht]; exact hst.1
 ·rcases List.mem_cons.1 ht with rfl | ht
  ·exact hst.1
  ·rw [List.mem_singleton] at ht; rw [ht]; exact hn.1
theorem zId {c:List (List Int)} {B:List Trm} (hB:Elt c B):∀{w:List Int} {x:List Trm},zA6 c w B=some x→Elt c x∧Lets c.length w∧CgF c.length (fL c x) (lops (ent c) (toN w) (fL c B))
 | [],x,h=>by
  simp only [zA6,Option.some.injEq] at h;subst h;exact ⟨hB,fun x hx=>by simp at hx,CgF.refl _⟩
 | i::w,x,h=>by
  simp only [zA6] at h;split at h
  ·cases h
  ·rename_i g hg
   split at h
   ·rename_i hm
    simp only [Option.some.injEq] at h;subst h;obtain ⟨h1,h2,h3⟩:=zId hB hg;obtain ⟨k1,k2,k3⟩:=zQS h1 hm;refine ⟨k1,zCJ k2 h2,k3.trans (zK2 (by omega) h3)⟩
   ·cases h
theorem zLJ {c:List (List Int)} {p:List Int}:∀{L:List Trm},(∀t∈L,t.2.length+p.length≤62)→CgF c.length (fL c (scT p L)) (fun w k=>pm p (fL c L w) k)
 | [],_=>fun w hw k=>by
  show wrap64 0=wrap64 (pm p (fun _=>0) k);rw [zDA]
 | t::L,h=>fun w hw k=>by
  have e1:wrap64 (fL c (scT p L) w k)=wrap64 (pm p (fL c L w) k):=zLJ (c:=c) (p:=p) (L:=L) (fun s hs=>h s (List.mem_cons_of_mem _ hs)) w hw k;have e2:=zIf t.2 p (h t (List.mem_cons_self ..)) k;show wrap64 (tf c (t.1,mulP t.2 p) w k+fL c (scT p L) w k)=wrap64 (pm p (fun k=>tf c t w k+fL c L w k) k);rw [zLx];have e3:wrap64 (tf c (t.1,mulP t.2 p) w k)=wrap64 (pm p (tf c t w) k):=by
   show wrap64 (if zAp c t.1 w then num (mulP t.2 p) k else 0)=wrap64 (pm p (fun k=>if zAp c t.1 w then num t.2 k else 0) k);by_cases a:zAp c t.1 w
   ·simp only [if_pos a];exact e2
   ·simp only [if_neg a,zDA]
  unfold wrap64 at *; omega
theorem zNh {c:List (List Int)} {p:List Int} {L:List Trm} (h:Elt c L) (hb:scB c p L=true):(∀t∈scR c p L,InI t.2∧Trd t.2∧Nice c t.1)∧CgF c.length (fL c (scR c p L)) (fun w k=>pm p (fL c L w) k):=by
 have hr:scR c p L=puts (scT p L):=by unfold scR; rw [if_pos hb]
 unfold scB scOk at hb;simp only [Bool.and_eq_true,List.all_eq_true,decide_eq_true_eq] at hb;have hn:∀t∈scT p L,Nice c t.1:=fun t ht=>by
  obtain ⟨s,hs,rfl⟩:=List.mem_map.1 ht;exact (h.nice hs).1
 have hc:=(zBD _ _ rfl (zEN p L)).1;rw [hr];refine ⟨fun t ht=>⟨hc.inn t ht,hc.tr t ht,?_⟩,(zFT h.car hn (zEN p L)).trans (zLJ hb.2.2)⟩;obtain ⟨s,hs,e⟩:=zDZ _ _ rfl t ht;rw [e]; exact hn s hs
theorem zQF {c:List (List Int)} {A B:List Trm} (hA:∀t∈A,InI t.2) (hB:∀t∈B,InI t.2) (hb:adB c A B=true):Elt c A∧Elt c B∧Elt c (adR c A B)∧CgF c.length (fL c (adR c A B)) (fun w k=>fL c A w k+fL c B w k):=by
 have hr:adR c A B=puts (A++B):=by
  unfold adB at hb;simp only [Bool.and_eq_true] at hb;unfold adR gd; rw [if_pos hb.1,if_pos hb.2.1,if_pos hb.2.2]
 have hin:=zKu (c:=c) hA hB;unfold adB at hb;simp only [Bool.and_eq_true] at hb;have eA:Elt c A:=⟨zAZ hb.1,hA⟩;have eB:Elt c B:=⟨zAZ hb.2.1,hB⟩;rw [hr] at hin ⊢;refine ⟨eA,eB,⟨zAZ hb.2.2,hin⟩,?_⟩;have h1:=zFT eA.car (D:=A++B) (fun t ht=>by
  rcases List.mem_append.1 ht with ht | ht
  ·exact (eA.nice ht).1
  ·exact (eB.nice ht).1) (fun t ht=>⟨((zJD eA.hk eB.hk).1 t ht).2.2,zJC hA hB t ht⟩)
 exact fun w hw k=>by rw [h1 w hw k,zII]
theorem zLb {c:List (List Int)} {B:List Trm} (hB:Elt c B):∀{A s r:List Trm},(∀t∈A,Lets c.length t.1)→Elt c s→mhF c B A s=some r→Elt c r∧CgF c.length (fL c r) (fun w k=>fL c s w k+LH c A (fL c B) w k)
 | [],s,r,_,hs,h=>by
  simp only [mhF,Option.some.injEq] at h;subst h;exact ⟨hs,fun w hw k=>by show _=wrap64 (fL c s w k+0); rw [Int.add_zero]⟩
 | t::A,s,r,hA,hs,h=>by
  simp only [mhF] at h;split at h
  ·cases h
  ·rename_i s' e
   unfold mhT at e;split at e
   ·cases e
   ·rename_i x hx
    split at e
    ·rename_i hsc
     split at e
     ·rename_i had
      simp only [Option.some.injEq] at e;subst e;obtain ⟨x1,x2,x3⟩:=zId hB hx;obtain ⟨y1,y2⟩:=zNh x1 hsc;obtain ⟨_,_,z3,z4⟩:=zQF hs.inn (fun t ht=>(y1 t ht).1) had;obtain ⟨r1,r2⟩:=zLb hB (fun t ht=>hA t (List.mem_cons_of_mem _ ht)) z3 h;refine ⟨r1,fun w hw k=>?_⟩;have a1:wrap64 (fL c r w k)=wrap64 (fL c (adR c s (scR c t.2 x)) w k+LH c A (fL c B) w k):=r2 w hw k;have a2:wrap64 (fL c (adR c s (scR c t.2 x)) w k)=wrap64 (fL c s w k+fL c (scR c t.2 x) w k):=z4 w hw k;have a3:wrap64 (fL c (scR c t.2 x) w k)=wrap64 (pm t.2 (fL c x w) k):=y2 w hw k;have a4:=zNf (x3 w hw) t.2 k;show _=wrap64 (fL c s w k+(pm t.2 (lops (ent c) (toN t.1) (fL c B) w) k+LH c A (fL c B) w k));unfold wrap64 at *; omega
     ·cases e
    ·cases e
theorem zQR {c:List (List Int)} {A B r:List Trm} (hA:∀t∈A,InI t.2) (hB:∀t∈B,InI t.2) (h:mhO c A B=some r):Elt c A∧Elt c B∧Elt c r∧CgF c.length (fL c r) (LH c A (fL c B)):=by
 unfold mhO at h;split at h
 ·rename_i h1
  split at h
  ·rename_i h2
   have eA:Elt c A:=⟨zAZ h1,hA⟩;have eB:Elt c B:=⟨zAZ h2,hB⟩;have e0:Elt c []:=⟨⟨eA.hk.car,by simp,fun t ht=>by simp at ht,fun t ht=>by simp at ht,fun t ht=>by simp at ht,fun t ht=>by simp at ht,List.Pairwise.nil⟩,fun t ht=>by simp at ht⟩;obtain ⟨r1,r2⟩:=zLb eB (fun t ht=>(eA.nice ht).1.lets) e0 h;refine ⟨eA,eB,r1,fun w hw k=>?_⟩;have:wrap64 (fL c r w k)=wrap64 (0+LH c A (fL c B) w k):=r2 w hw k;rwa [Int.zero_add] at this
  ·cases h
 ·cases h
open Classical in
noncomputable def dl (n:Nat) (c:Nat→Nat→Int) (x:List Nat):Fw:=fun w k=>if Eqv n c x w∧k=0 then 1 else 0
section
variable {n:Nat} {c:Nat→Nat→Int}
theorem zEt {x w:List Nat} (he:Eqv n c x w):dl n c x w=fun k=>if k=0 then 1 else 0:=funext fun k=>by
 unfold dl;by_cases hk:k=0
 ·rw [if_pos ⟨he,hk⟩,if_pos hk]
 ·rw [if_neg (fun x=>hk x.2),if_neg hk]
theorem zDs {x w:List Nat} (he:¬Eqv n c x w):dl n c x w=fun _=>0:=funext fun k=>if_neg fun x=>he x.1
theorem zFH:sh (fun _=>0)=fun _=>0:=funext fun k=>Cox.sh_zero' (fun _=>rfl) k
theorem zP0 (h:Cox.Car n c) {t:Nat} (ht:t<n) {x:List Nat} (hx:Cox.Lets n x) (hd:¬Rd c t x):EqL n (rop c t (dl n c x)) (dl n c (x++[t])):=fun w hw=>by
 have fw:=Cox.Rd.flip h ht hw;have e1:Eqv n c x (w++[t])↔Eqv n c (x++[t]) w:=⟨fun a=>(a.snoc t).trans (Eqv.dbr h ht w),fun a=>(Eqv.dbr h ht x).symm.trans (a.snoc t)⟩;by_cases a:Rd c t w
 ·have n1:¬Eqv n c x w:=fun y=>hd ((Cox.Rd.eqv h hx hw t y).2 a);rw [Cox.rop_yes a,zDs n1,zFH];by_cases b:Eqv n c (x++[t]) w
  ·rw [zEt b,zEt (e1.2 b)]; funext k; simp
  ·rw [zDs b,zDs (mt e1.1 b)]; rfl
 ·have n2:¬Eqv n c x (w++[t]):=fun y=>hd ((Cox.Rd.eqv h hx (Cox.lets_snoc ht hw) t y).2 (fw.2 a));rw [Cox.rop_no a,zDs n2,zDs (mt e1.2 n2),zFH]
theorem zJ4 (h:Cox.Car n c):∀(m:Nat) {x:List Nat},x.length=m→Rdd n c x→EqL n (rops c x (dl n c [])) (dl n c x)
 | m,x,hm,hr=>by
  rcases List.eq_nil_or_concat x with rfl | ⟨v,t,rfl⟩
  ·exact EqL.refl _
  ·rw [List.concat_eq_append] at hr hm ⊢;obtain ⟨ht,hv,hd⟩:=hr.snoc h;cases m with
   | zero=>simp at hm
   | succ m =>
    have ih:=zJ4 h m (x:=v) (by simpa using hm) hv;rw [Cox.rops_app];exact (Cox.rop_congr (c:=c) ht ih).trans (zP0 h ht hv.1 hd)
end
theorem zNj:un (fun k=>if k=0 then 1 else 0):=⟨rfl,fun _=>rfl⟩
theorem zQT {c:List (List Int)} (hc:CartanP c) {t:Trm} (h:Lets c.length t.1) {w:List Nat} (hw:Cox.Lets c.length w) (k:Nat):pm t.2 (dl c.length (ent c) (toN t.1) w) k=tf c t w k:=by
 unfold tf;by_cases a:zAp c t.1 w
 ·rw [if_pos a,zEt ((same_eqv hc h hw).1 a),zKf zNj]
 ·rw [if_neg a,zDs (fun e=>a ((same_eqv hc h hw).2 e)),zDA]
theorem zPf {c:List (List Int)} (hc:CartanP c) {x:List Int} (h:Nice c x):EqL c.length (fL c [(x,[1])]) (rops (ent c) (toN x) (dl c.length (ent c) [])):=fun w hw=>by
 rw [zJ4 hc.car _ rfl (h.red hc) w hw];funext k;have e:=zQT hc (t:=(x,[1])) h.lets hw k;show tf c (x,[1]) w k+0=dl c.length (ent c) (toN x) w k;rw [<-e];show (1*dl c.length (ent c) (toN x) w k+sh (fun _=>0) k)+0=dl c.length (ent c) (toN x) w k;have z:sh (fun _=>(0:Int)) k=0:=Cox.sh_zero' (fun _=>rfl) k;rw [z]; omega
theorem zI5:∀(m:Nat) (k:Nat),shN m (fun _=>0) k=0
 | 0,_=>rfl
 | m+1,k=>by show shN m (sh (fun _=>0)) k=0; rw [zFH]; exact zI5 m k
theorem zM8 {c:List (List Int)} (hc:CartanP c):Nice c []:=by
 have h:=zBo hc (x:=[]) (fun x hx=>by simp at hx) (by simp);have:zAB c []=[]:=List.eq_nil_of_length_eq_zero (by have:=zAj hc (w:=[]) (fun x hx=>by simp at hx) (by simp); simpa using this);rw [this] at h; exact h.1
end Go.Proofs.YtlchafedbnihoaaGreat
namespace Go.Proofs.YtlchafedbnihoaaGreat
open Go.RowKit
set_option maxRecDepth 20000
set_option maxHeartbeats 8000000
def eqTr (x y:Trm):Bool:=if eqL x.1 y.1 then eqL x.2 y.2 else false
def eqHk:List Trm→List Trm→Bool
 | x::xs,y::ys=>if eqTr x y then eqHk xs ys else false
 | [],[]=>true
 | _,_=>false
theorem zIF:∀{L L':List Trm},L.length≠L'.length→eqHk L L'=false
 | [],[],h=>by simp at h
 | [],_::_,_=>rfl
 | _::_,[],_=>rfl
 | x::xs,y::ys,h=>by
  unfold eqHk;rw [zIF (by simpa using h)];simp
theorem zEB {S S':Nat→Prop} {u v:Value} {L L':List Trm} {w:World} (h:RT S w u L) (h':RT S' w v L') (hl:zAI L≤16777216) (hl':zAI L'≤16777216) :
  Calls Tryz.prog 19 #[u,v] w fun e w'=>e=.returned (.bool (eqHk L L'))∧∃m,w'=w.drewN m:=by
 obtain ⟨a,cap,rfl⟩:=h.form;obtain ⟨a',cap',rfl⟩:=h'.form;have hn0:L.length≤16777216:=by unfold zAI at hl; omega
 by_cases hlen:L.length=L'.length
 ·generalize hr:eqHk L L'=r;have R:Hid (eqHk (L.drop 0) (L'.drop 0)=r):=zQY hr;clear hr;rw [<-hlen] at h' ⊢;generalize hn:L.length=n at *;have H:=zQY hn;have H':=zQY hlen;clear hn hlen;go_enter Tryz.func19,Tryz.ntmps19
  go_wp2_with fail
  go_loopw [5] (fun i wr=>∃(k:Nat),k≤n∧i=.int .i64 k∧(∃m,wr=w.drewN m)∧Hid (eqHk (L.drop k) (L'.drop k)=r)) (fun i _=>n-(intOf i).toNat)
  case atStart=>exact ⟨0,Nat.zero_le _,rfl,dr0,R⟩
  case round =>
   obtain ⟨k,hk,rfl,⟨m,hw⟩,HR⟩:=hrel;have h:=h.drewN m;have h':=h'.drewN m;rw [<-hw] at h h';have HW:=zQY hw;clear hw;by_cases hlt:k<n
   ·obtain ⟨b,o,r1,r2,x,rfl,hc,hd,⟨hr1,hr2⟩,hx⟩:=h.at hlt;obtain ⟨b',o',r3,r4,y,rfl,hc',hd',⟨hr3,hr4⟩,hy⟩:=h'.at hlt;obtain ⟨l1,p1⟩:=x;obtain ⟨l2,p2⟩:=y;have hll:l1.length≤16777216:=by have:=zDd (zQa hx.out); simp at this; omega
    have hll':l2.length≤16777216:=by have:=zDd (zQa hy.out); simp at this; omega
    have hlp:p1.length≤16777216:=by have:=zDd (zQa hx.out); simp at this; omega
    have hlp':p2.length≤16777216:=by have:=zDd (zQa hy.out); simp at this; omega
    have b1:(k:Int)<(n:Int):=by omega
    have HR2:Hid ((if (if eqL l1 l2 then eqL p1 p2 else false) then eqHk (L.drop (k+1)) (L'.drop (k+1)) else false)=r):=by
     have:=HR.out;rw [zAF hx.out,zAF hy.out,eqHk,eqTr] at this;exact zQY this
    have HC:∀n,Calls Tryz.prog 44 #[r1,r3] (wr.drewN n) fun e w'=>e=.returned (.bool (eqL l1 l2))∧∃m,w'=(wr.drewN n).drewN m:=fun n=>zBv (hr1.drewN n) (hr3.drewN n) hll hll';have HD:∀n,Calls Tryz.prog 44 #[r2,r4] (wr.drewN n) fun e w'=>e=.returned (.bool (eqL p1 p2))∧∃m,w'=(wr.drewN n).drewN m:=fun n=>zBv (hr2.drewN n) (hr4.drewN n) hlp hlp';generalize eqL l1 l2=q1 at *;generalize eqL p1 p2=q2 at *;have HC:=zQY HC;have HD:=zQY HD;clear hr1 hr2 hr3 hr4;cases q1
    ·have HR3:Hid (false=r):=by have:=HR2.out; exact zQY (by simpa using this)
     go_wp2_with fail
     go_quiet ((go_at_call_of 44 (r1); exact Calls.quiet_of (HC.out _)))
     go_wp2_with fail
     go_ret
     exact ⟨zAD HR3.out,m+nq,by rw [HW.out]; simp⟩
    ·cases q2
     ·have HR3:Hid (false=r):=by have:=HR2.out; exact zQY (by simpa using this)
      go_wp2_with fail
      go_quiet (first | (go_at_call_of 44 (r1); exact Calls.quiet_of (HC.out _)) | (go_at_call_of 44 (r2); exact Calls.quiet_of (HD.out _)))
      go_wp2_with fail
      go_ret
      exact ⟨zAD HR3.out,m+nq,by rw [HW.out]; simp⟩
     ·have HR3:Hid (eqHk (L.drop (k+1)) (L'.drop (k+1))=r):=by have:=HR2.out; exact zQY (by simpa using this)
      go_wp2_with fail
      go_quiet (first | (go_at_call_of 44 (r1); exact Calls.quiet_of (HC.out _)) | (go_at_call_of 44 (r2); exact Calls.quiet_of (HD.out _)))
      go_wp2_with fail
      go_roundw
      case rel=>exact ⟨k+1,by omega,by go_num,⟨m+nq,by rw [HW.out]; simp⟩,HR3⟩
      case measure=>simp [intOf]; omega
   ·go_wp2_with fail
    go_ret
    refine ⟨zAD ?_,m,HW.out⟩;have:=HR.out;rw [List.drop_eq_nil_of_le (by have:=H.out; omega),List.drop_eq_nil_of_le (by have:=H.out; have:=H'.out; omega)] at this;exact this
 ·have hne:((L.length:Int) != (L'.length:Int))=true:=by simp; omega
  have E:=zQY (zIF hlen);generalize eqHk L L'=r at *;generalize L.length=n at *;generalize L'.length=n' at *;go_enter Tryz.func19,Tryz.ntmps19
  go_wp2_with fail
  go_ret
  exact ⟨zAD E.out.symm,0,rfl⟩
theorem zPr {c:List (List Int)} {A B:List Trm} (h:mhB c A B=true):mhO c A B=some (mhR c A B):=by
 unfold mhB mhR at *;cases e:mhO c A B with
 | none=>rw [e] at h; cases h
 | some r=>rfl
theorem zFS (l:List Int):eqL l l=true:=by unfold eqL; simp
theorem zEv:∀L:List Trm,eqHk L L=true
 | []=>rfl
 | x::L=>by unfold eqHk eqTr; rw [zFS,zFS,zEv L]; rfl
end Go.Proofs.YtlchafedbnihoaaGreat
